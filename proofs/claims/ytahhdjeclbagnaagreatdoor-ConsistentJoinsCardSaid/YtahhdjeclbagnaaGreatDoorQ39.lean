/-
  CtJ
-/
import Derived.Shelf.Strconv.AppendIntPublic10
import Derived.Ground.NamesProg
import Derived.Lib.AppendIntMem
import Derived.Lib.ItoaLen
import Derived.Laws.IdiomStrings
import Derived.Test.YtahhdjeclbagnaaGreatDoorQ31
import Derived.Test.YtahhdjeclbagnaaGreatDoorQ26
namespace Go.Proofs
open Go.Shelf Go.RowKit
end Go.Proofs
namespace Go.Proofs.YtahhdjeclbagnaaGreatDoor
open Go.RowKit Go.Shelf
def Bytes (B : Nat) (w : World) (v : Value) (l : List UInt8) : Prop := w.ownsRow B 5 1 v l.length (Lib.byteCells l)
structure Wrote (B : Nat) (w w' : World) : Prop where
 below : Below B w w'
 kept : Lib.OthersKept 5 none w w'
theorem Wrote.refl (B : Nat) (w : World) : Wrote B w w := ⟨Below.refl _ _, Lib.OthersKept.refl _ _ _⟩
theorem Wrote.trans {B : Nat} {a b c : World} (h : Wrote B a b) (k : Wrote B b c) : Wrote B a c := ⟨h.below.trans k.below, h.kept.trans k.kept⟩
theorem Bytes.nil (B : Nat) (w : World) : Bytes B w (.slice none 0 0) [] := World.ownsRow_nil _ _ _ _
def Tab (w : World) : Prop := Lib.TabIs Tryz.prog w "internal/strconv.uint64pow10" .u64 Lib.pow10Tab
def TabB (B : Nat) (w : World) : Prop := Lib.TabBelow Tryz.prog B w "internal/strconv.uint64pow10" .u64 Lib.pow10Tab
theorem Tab.below {w w' : World} (h : Tab w) (hb : Below w.heap.size w w') : Tab w' := Lib.tabBelow_of_tabIs h w' hb
theorem TabB.on {B : Nat} {w w' : World} (h : TabB B w) (hb : Below B w w') : TabB B w' := Lib.TabBelow.on h hb
theorem Tab.tabB {w : World} (h : Tab w) : TabB w.heap.size w := Lib.tabBelow_of_tabIs h
theorem info_byte : (Tryz.prog.info? 5).map (fun i => (i.zero, i.size, i.bytes)) = some (some (.int .u8 0), 1, 1) := by kernel_rfl
theorem wpList_append_byte {W : World} {ops : Array Oper} {rest : List Oper} {o : Oper} {a : Act} {Q : Exit → Act → World → Prop}
 (hg : o.guard = none) (s x : Operand) (hop : o.op = Op.call { callee := Callee.builtin Builtin.append, args := #[s, x], argTypes := #[120, 120] })
 (B : Nat) (v : Value) (l : List UInt8) (hs : a.eval s = v) (hB : Bytes B W v l) (c : UInt8) (ci : Int) (hc : ci = (c.toNat : Int)) (hx : a.eval x = .slice (some ⟨W.heap.size, 0, none⟩) 1 1) (hlen : l.length + 1 ≤ 140737488355328) (hBW : B ≤ W.heap.size)
 (hK : ∀ v' w', Bytes B w' v' (l ++ [c]) → Wrote B W w' → wpList Tryz.prog ops Q rest (a.put o.dst v') w') :
 wpList Tryz.prog ops Q (o :: rest) a (W.alloc (.cells #[.int .u8 ci] 5)) := by
 subst hc
 obtain ⟨i0, hi, hz0, hz1, hz2⟩ := info_parts' info_byte
 refine wpList_append_own _ hg s x 120 hop B 5 i0 (.int .u8 0) 1 1 Tryz.underlying120 hi hz0 hz1 hz2 rfl (by decide) v l.length (Lib.byteCells l) hs (World.ownsRow.alloc hB _) ⟨W.heap.size, 0, none⟩ 1 1 [Value.int .u8 c.toNat] hx rfl
  (by intro j u' hj; match j, hj with | 0, hj => simp at hj; subst hj; simp [Addr.add]) (by intro u' hu'; simp at hu'; subst hu'; rfl) (by unfold maxLen; omega) (by omega) (by simp; omega) ?_
 intro v' w' hown hgrow _
 refine hK v' w' ?_ ⟨?_, ?_⟩
 · unfold Bytes
   rw [List.length_append, List.length_singleton, Lib.byteCells_append]
   exact hown
 · exact ((Below.refl _ W).alloc hBW _).grown hgrow (by simp; omega) (fun k hk => (hB.lt k hk).1)
 · intro k o' ho hb hne
   have hlt := lt_of_heap ho
   have hrow : some k ≠ v.ownBlock := by
    intro e
    rcases hB.2 with ⟨rfl, _⟩ | ⟨g, cap, cur, rfl, _, h3, _⟩
    · cases e
    · simp only [Value.ownBlock, Option.some.injEq] at e
      subst e
      rw [ho] at h3
      injection h3 with h3
      exact hne _ _ h3
   rw [hgrow.block k (by simp; omega) hrow]
   exact (Below.heap_alloc _ _ _ hlt).trans ho
theorem appendInt_any {B : Nat} {w : World} {v : Value} {l : List UInt8} (hB : Bytes B w v l) (i : Int) (h0 : -9223372036854775808 ≤ i) (h1 : i ≤ 9223372036854775807) (hBw : B ≤ w.heap.size) (hlen : l.length + 21 ≤ 140737488355328) (ht : TabB B w) :
 Calls Tryz.prog 55 #[v, .int .i64 i, .int .i64 10] w (fun e w' => ∃ v', e = .returned v' ∧ Bytes B w' v' (l ++ Lib.itoa i) ∧ Wrote B w w') := by
 refine (Any.strconv_AppendInt_10 Tryz.laysAppendInt B l.length i h0 h1 v _ w hB hBw hlen ht).mono ?_
 rintro e w' ⟨v', rfl, hown, hb, hk⟩
 refine ⟨v', rfl, ?_, hb, hk⟩
 unfold Bytes
 rw [List.length_append, Lib.byteCells_append]
 exact hown
def textM (l : List Int) : List UInt8 := l.flatMap (fun x => Lib.itoa x ++ [44])
theorem textM_snoc (l : List Int) (x : Int) : textM (l ++ [x]) = textM l ++ Lib.itoa x ++ [44] := by simp [textM, List.append_assoc]
theorem textM_len (l : List Int) (hl : ∀ x ∈ l, -9223372036854775808 ≤ x ∧ x ≤ 9223372036854775807) : (textM l).length ≤ 22 * l.length := by
 induction l with
 | nil => simp [textM]
 | cons x l ih =>
  have h1 := ih (fun y hy => hl y (List.mem_cons_of_mem _ hy))
  have h2 := Lib.itoa_length_le _ (hl x (by simp)).1 (hl x (by simp)).2
  show (Lib.itoa x ++ [44] ++ textM l).length ≤ _
  simp only [List.length_append, List.length_cons, List.length_nil]
  omega
def numOf (l : List UInt8) : Nat := l.foldl (fun n c => n * 10 + (c.toNat - 48)) 0
theorem numOf_digits (u : Nat) : numOf (Lib.decDigits u) = u := by
 induction u using Nat.strongRecOn with
 | _ u ih =>
  rw [Lib.decDigits]
  by_cases h : u < 10
  · rw [dif_pos h]
    simp only [numOf, List.foldl_cons, List.foldl_nil, UInt8.toNat_ofNat']
    omega
  · rw [dif_neg h]
    have h1 := ih (u / 10) (by omega)
    simp only [numOf, List.foldl_append, List.foldl_cons, List.foldl_nil, UInt8.toNat_ofNat'] at h1 ⊢
    rw [h1]
    omega
theorem digits_chars (u : Nat) : ∀ c ∈ Lib.decDigits u, 48 ≤ c.toNat ∧ c.toNat ≤ 57 := by
 induction u using Nat.strongRecOn with
 | _ u ih =>
  intro c hc
  rw [Lib.decDigits] at hc
  by_cases h : u < 10
  · rw [dif_pos h, List.mem_singleton] at hc
    subst hc
    rw [UInt8.toNat_ofNat']
    omega
  · rw [dif_neg h, List.mem_append, List.mem_singleton] at hc
    rcases hc with hc | rfl
    · exact ih _ (by omega) c hc
    · rw [UInt8.toNat_ofNat']
      omega
theorem itoa_chars (x : Int) : ∀ c ∈ Lib.itoa x, c.toNat = 45 ∨ (48 ≤ c.toNat ∧ c.toNat ≤ 57) := by
 intro c hc
 unfold Lib.itoa at hc
 split at hc
 · rcases List.mem_cons.1 hc with rfl | hc
   · exact .inl rfl
   · exact .inr (digits_chars _ c hc)
 · exact .inr (digits_chars _ c hc)
theorem itoa_inj {x y : Int} (h : Lib.itoa x = Lib.itoa y) : x = y := by
 have hh : ∀ u : Nat, ∀ l, Lib.decDigits u ≠ 45 :: l := fun u l e => by
  have := digits_chars u 45 (by rw [e]; simp)
  exact absurd this.1 (by decide)
 unfold Lib.itoa at h
 by_cases hx : x < 0
 · rw [if_pos hx] at h
   by_cases hy : y < 0
   · rw [if_pos hy] at h
     have h1 := congrArg numOf (List.cons.inj h).2
     rw [numOf_digits, numOf_digits] at h1
     omega
   · rw [if_neg hy] at h
     exact absurd h.symm (hh _ _)
 · rw [if_neg hx] at h
   by_cases hy : y < 0
   · rw [if_pos hy] at h
     exact absurd h (hh _ _)
   · rw [if_neg hy] at h
     have h1 := congrArg numOf h
     rw [numOf_digits, numOf_digits] at h1
     omega
theorem sep_inj {α : Type} {x : α} : ∀ {a b r r' : List α}, x ∉ a → x ∉ b → a ++ x :: r = b ++ x :: r' → a = b ∧ r = r'
 | [], [], r, r', _, _, h => ⟨rfl, (List.cons.inj h).2⟩
 | [], c :: b, _, _, _, hb, h => absurd (List.cons.inj h).1 (fun e => hb (by rw [e]; simp))
 | c :: a, [], _, _, ha, _, h => absurd (List.cons.inj h).1 (fun e => ha (by rw [← e]; simp))
 | c :: a, d :: b, r, r', ha, hb, h => by
  obtain ⟨h1, h2⟩ := List.cons.inj h
  have h3 := sep_inj (fun hm => ha (List.mem_cons_of_mem _ hm)) (fun hm => hb (List.mem_cons_of_mem _ hm)) h2
  exact ⟨by rw [h1, h3.1], h3.2⟩
theorem itoa_no (x : Int) : (44 : UInt8) ∉ Lib.itoa x := fun hc => by
 have := itoa_chars x 44 hc
 have e : (44 : UInt8).toNat = 44 := rfl
 omega
theorem textM_inj : ∀ {l m : List Int}, textM l = textM m → l = m
 | [], [], _ => rfl
 | [], y :: m, h => by
  have h : ([] : List UInt8) = Lib.itoa y ++ [44] ++ textM m := h
  simp at h
 | x :: l, [], h => by
  have h : Lib.itoa x ++ [44] ++ textM l = ([] : List UInt8) := h
  simp at h
 | x :: l, y :: m, h => by
  have h : Lib.itoa x ++ [44] ++ textM l = Lib.itoa y ++ [44] ++ textM m := h
  rw [List.append_assoc, List.append_assoc] at h
  have h1 := sep_inj (itoa_no x) (itoa_no y) h
  rw [itoa_inj h1.1, textM_inj h1.2]
set_option maxRecDepth 100000 in
set_option maxHeartbeats 4000000 in
theorem text_any (l : List Int) (A : Option Addr) (c : Nat) (w : World) (hA : At w 1 A l.length c (ints l)) (hr : ∀ x ∈ l, -9223372036854775808 ≤ x ∧ x ≤ 9223372036854775807) (hl : l.length ≤ 100000) (ht : Tab w) :
 Calls Tryz.prog 34 #[.slice A l.length c] w (RetB (.string ⟨(textM l).toArray⟩) w) := by
 have HA := Lib.hid hA; clear hA
 have HR := Lib.hid hr; clear hr
 have HT := Lib.hid ht.tabB; clear ht
 go_enter Tryz.func34, Tryz.ntmps34
 go_wp2
 go_loopw [3, 8] (fun v3 i wr => ∃ k : Nat, k ≤ l.length ∧ i = .int .i64 k ∧ Hid (Bytes w.heap.size wr v3 (textM (l.take k))) ∧ Hid (Wrote w.heap.size w wr)) (fun _ i _ => l.length - (intOf i).toNat)
 case atStart => exact ⟨0, Nat.zero_le _, rfl, Bytes.nil _ _, Wrote.refl _ _⟩
 case round =>
  obtain ⟨k, hk, rfl, HO, HW⟩ := hrel
  by_cases hlt : k < l.length
  · obtain ⟨x, hx⟩ : ∃ x, l[k]? = some x := ⟨_, List.getElem?_eq_getElem hlt⟩
    have hmem := List.mem_of_getElem? hx
    obtain ⟨hx0, hx1⟩ := HR.out _ hmem
    have HAw : Hid (At wr 1 A l.length c (ints l)) := HA.out.below (by omega) HW.out.below
    obtain ⟨b, off, hbA, hbl, hc0⟩ := HAw.out.1.form (by omega) (by omega)
    subst hbA
    have e0 : wr.cell? ⟨b, off + k, none⟩ = some (.int .i64 x) := (hc0 k (by omega)).trans (ints_get hx)
    have hwl := textM_len (l.take k) (fun y hy => HR.out y (List.mem_of_mem_take hy))
    rw [List.length_take] at hwl
    have HWT : Hid (textM (l.take (k + 1)) = textM (l.take k) ++ Lib.itoa x ++ [44]) := by
     show _ = _
     rw [List.take_add_one, hx, ← textM_snoc]; rfl
    have k0 : (k : Int) < (l.length : Int) := by omega
    have hsz := HW.out.below.size
    have hl9 : l.length ≤ 9223372036854775807 := by omega
    clear hc0 hx hmem
    go_wp2_with (first | (go_at_call 55; refine (appendInt_any HO.out x hx0 hx1 (by omega) (by omega) (HT.out.on HW.out.below)).mono ?_; rintro e w1 ⟨v1, rfl, h1, h2⟩; refine Hid.out ?_))
    refine Lib.hid ?_
    have HO1 := Lib.hid h1; clear h1
    have HW1 := Lib.hid (HW.out.trans h2); clear h2
    have hsz1 := HW1.out.below.size
    have hil := Lib.itoa_length_le _ hx0 hx1
    go_wp2_with (at_builtin; refine wpList_append_byte rfl _ _ rfl w.heap.size _ _ rfl HO1.out 44 44 rfl rfl (by rw [List.length_append]; omega) (by omega) ?_; intro v2 w2 h1 h2; refine Hid.out ?_)
    refine Lib.hid ?_
    have HO2 := Lib.hid h1; clear h1
    have HW2 := Lib.hid (HW1.out.trans h2); clear h2
    go_wp2
    go_roundw
    case rel => exact ⟨k + 1, by omega, by go_num, by show Bytes _ _ _ _; rw [HWT.out]; exact HO2.out, HW2⟩
    case measure => simp [intOf]; omega
  · obtain rfl : k = l.length := by omega
    rw [List.take_length] at HO
    have HBF := Lib.hid HW.out.below
    obtain ⟨tx, htx⟩ : ∃ tx, tx = textM l := ⟨_, rfl⟩
    rw [← htx] at HO
    have HTX := Lib.hid htx; clear htx
    have hO := HO.out
    rcases hO.2 with ⟨h1, h0⟩ | ⟨g, cap, cur, rfl, _, _, _, _, _, _⟩
    · have e0 : tx = [] := List.eq_nil_of_length_eq_zero h0
      subst h1 e0
      have hcv : (convert 120 9 (.slice none 0 0)).run Tryz.prog wr = .ok (.string ⟨#[]⟩) wr := by
       rw [run_convert_bytes_string wr 120 9 5 none 0 0 Tryz.underlying120 Tryz.underlying5 Tryz.underlying9]
       rfl
      go_wp2
      go_ret
      rw [← HTX.out]
      exact ⟨rfl, HBF.out⟩
    · have hcv := run_convert_bytes_back (P := Tryz.prog) wr 120 9 5 ⟨g, 0, none⟩ cap tx Tryz.underlying120 Tryz.underlying5 Tryz.underlying9 (fun j hj => World.ownsRow.cells hO (g := g) rfl j _ (by simp [Lib.byteCells, hj]))
      go_wp2
      go_ret
      rw [← HTX.out]
      exact ⟨rfl, HBF.out⟩
end Go.Proofs.YtahhdjeclbagnaaGreatDoor
