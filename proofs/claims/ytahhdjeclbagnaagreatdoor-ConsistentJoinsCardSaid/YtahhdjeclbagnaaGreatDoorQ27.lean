/-
  CsK; CsL; CsS
-/
import Derived.Shelf.SlIterI.Nil
import Derived.Shelf.SortM.Plain
import Derived.Shelf.SortM.SortNone
import Derived.Ground.GgzProg
import Derived.Ground.SlgmProg
import Derived.Test.YtahhdjeclbagnaaGreatDoorQ24
import Derived.Test.YtahhdjeclbagnaaGreatDoorQ26
import Derived.Sort.MapsRangeIn
import Derived.Sort.KeysCollected
import Derived.WalkKit
import Derived.RegionIn
import Derived.Sort.CutIn
import Derived.Lib.AppendIntMem
namespace Go.Proofs
open Go.RowKit Go.Maps Go.Sort Go.Shelf
theorem Tryz.sortsItI (m : Nat) : AnyZI.SortsIn Tryz.prog Tryz.sortedItI_ren Fence.wide m :=
 ⟨fun blk off cap ss W hH hblk hsz => callsIn_wide.2 (AnyM.slices_Sort_int Tryz.sortItI blk off cap ss W hH hblk hsz),
  fun p cap W => callsIn_wide.2 (AnyM.slices_Sort_int_none Tryz.sortItI p cap W)⟩
theorem Tryz.maps_Keys_itF (mb : Option Nat) (W : World) : CallsIn Fence.wide 5 Tryz.prog 39 #[.map mb] W fun e w' => e = .returned (.func (.func 59) #[] #[.pointer (some ⟨W.heap.size, 0, none⟩)]) ∧ w' = W.alloc (.cells #[.map mb] 90) :=
 AnyZI.keys_in Tryz.keysItF Fence.wide 5 trivial rfl mb W
set_option maxHeartbeats 1000000 in
theorem Tryz.slices_Sorted_keys_itF {H : Type} (b nn : Nat) (D0 : DataW H) (R : Value → Option (DataW H × List MemPlace)) (w : World) (hown : w.ownsMap Tryz.prog 3 R b nn D0) (hmax : Maps.size D0 ≤ maxLen) (hbytes : Maps.size D0 * 8 ≤ 140737488355328) :
 CallsIn Fence.wide 5 Tryz.prog 38 #[.func (.func 59) #[] #[.pointer (some ⟨w.heap.size, 0, none⟩)]] (w.alloc (.cells #[.map (some b)] 90)) fun e w' => ∃ (v : Value) (ss : List Int), e = .returned v ∧ ss.Perm (intKeys D0) ∧
  w'.ownsRow (w.alloc (.cells #[.map (some b)] 90)).heap.size 3 1 v ss.length ((ss.mergeSort (fun x y => decide (x ≤ y))).map encZ) ∧ (v = .slice none 0 0 ↔ ss = []) ∧ Below (w.alloc (.cells #[.map (some b)] 90)).heap.size (w.alloc (.cells #[.map (some b)] 90)) w' := by
 have hbl := hown.lt
 have hseq : SeqGives Fence.wide 2 Tryz.prog 59 #[.pointer (some ⟨w.heap.size, 0, none⟩)] encZ (fun ss => ss.Perm (intKeys D0)) (Maps.size D0) (w.alloc (.cells #[.map (some b)] 90)) :=
  AnyZI.keys_gives (ρ := Tryz.keysItF_ren) { Tryz.keysItF with } Fence.wide _ trivial rfl (by omega) w.heap.size b nn D0 _ (by simp) (by simp) (by
   obtain ⟨es, clock, hb, Ft, hs, hD⟩ := hown
   exact ⟨es, clock, (Below.heap_alloc _ _ b hbl).trans hb, Ft, hs, hD⟩)
 exact AnyZI.sorted_in Tryz.sortedItI Fence.wide 5 trivial trivial trivial trivial rfl (by omega) (Tryz.sortsItI _) (enters_of Tryz.func36 (by kernel_rfl) rfl) 59 #[.pointer (some ⟨w.heap.size, 0, none⟩)] trivial (enters_of Tryz.func59 (by kernel_rfl) rfl) _ _ hmax hbytes _ hseq
end Go.Proofs
namespace Go.Proofs.YtahhdjeclbagnaaGreatDoor
open Go.RowKit Go.Maps Go.Sort Go.Shelf
theorem MapX.intKeys {w : World} {b n : Nat} {g : Int → Option Value} (h : MapX In64 3 encI w b n g) :
 ∃ D : DataW Value, w.ownsMap Tryz.prog 3 RM b (Maps.size D) D ∧ Maps.size D = n ∧ (Go.intKeys D).Nodup ∧ (∀ x ∈ Go.intKeys D, In64 x) ∧ ∀ x, In64 x → (x ∈ Go.intKeys D ↔ (g x).isSome = true) := by
 obtain ⟨D, h1, h2, h3, h4, h5⟩ := h
 have hwf := intKeys_wf h1 Tryz.underlying3
 obtain ⟨es, hD, hpw, _⟩ := h1.entries lawI
 obtain ⟨es', hD', hko⟩ := h1.keysOf
 obtain rfl : es = es' := by rw [hD] at hD'; simpa using hD'
 subst hD
 have hk : ∀ p ∈ es, ∃ x, p.1 = .int .i64 x := fun p hp => by obtain ⟨v, hv⟩ := hko p hp; obtain ⟨x, _, hx, _⟩ := Maps.keyOf_i64 Tryz.underlying3 hv; exact ⟨x, hx⟩
 refine ⟨_, h1, h2, ?_, hwf, fun x hx => ?_⟩
 · show (es.map fun p => Go.intOf p.1).Nodup
   refine List.pairwise_map.2 (hpw.imp_of_mem fun {p q} hp' hq' hne e => hne ?_)
   obtain ⟨a, ha⟩ := hk p hp'
   obtain ⟨b, hb⟩ := hk q hq'
   rw [ha, hb] at e ⊢
   exact congrArg _ e
 · rw [← h4 x hx, has_eq, List.any_eq_true]
   show x ∈ es.map (fun p => Go.intOf p.1) ↔ _
   rw [List.mem_map]
   constructor
   · rintro ⟨p, hp', rfl⟩
     obtain ⟨a, ha⟩ := hk p hp'
     exact ⟨p, hp', by rw [ha]; simp [Lit.sameKey, Go.intOf, encI]⟩
   · rintro ⟨p, hp', hs⟩
     obtain ⟨a, ha⟩ := hk p hp'
     rw [ha] at hs
     exact ⟨p, hp', by rw [ha]; simpa [Lit.sameKey, Go.intOf, encI] using hs⟩
def KeysF (g : Int → Option Value) (w : World) (e : Ending) (w' : World) : Prop :=
 ∃ (T : List Int) (A : Option Addr) (c : Nat), e = .returned (.slice A T.length c) ∧ At w' 1 A T.length c (T.map (Value.int .i64)) ∧ (∀ b off, A = some ⟨b, off, none⟩ → w.heap.size ≤ b) ∧ Below w.heap.size w w' ∧ T.Pairwise (· < ·) ∧ (∀ x ∈ T, In64 x) ∧ ∀ x, In64 x → (x ∈ T ↔ (g x).isSome = true)
theorem keysF_any (b : Nat) (w : World) : Calls Tryz.prog 39 #[.map (some b)] w (fun e w' => e = .returned (.func (.func 59) #[] #[.pointer (some ⟨w.heap.size, 0, none⟩)]) ∧ w' = w.alloc (.cells #[.map (some b)] 90)) :=
 callsIn_wide.1 (Tryz.maps_Keys_itF _ _)
theorem ownsRow_atB {w : World} {B : Nat} {e : TypeId} {size n : Nat} {v : Value} {xs : List Value} (h : w.ownsRow B e size v n xs) (h1 : ∀ u ∈ xs, u.oneCell' = true) : ∃ A c, v = .slice A n c ∧ At w size A n c xs ∧ ∀ b off, A = some ⟨b, off, none⟩ → B ≤ b := by
 rcases h.2 with ⟨rfl, rfl, rfl⟩ | ⟨g, cap, cur, rfl, hB, hg, h2, h3, h4, h5⟩
 · exact ⟨none, 0, rfl, ⟨⟨h.1, h1, fun h => absurd h (Nat.lt_irrefl _)⟩, fun _ => ⟨rfl, rfl⟩, Nat.le_refl _, Nat.zero_le _⟩, fun b off e => by cases e⟩
 · refine ⟨_, cap, rfl, ⟨⟨h.1, h1, fun _ => ⟨_, rfl, fun j u hj => ?_⟩⟩, fun e => (by cases e), h2, h3⟩, fun b off e => by simp only [Option.some.injEq, Addr.mk.injEq] at e; omega⟩
   rw [Addr.add_lit, Nat.zero_add, cell_of_row w g j _ _ _ hg]
   have hj2 : j < xs.length := (List.getElem?_eq_some_iff.1 hj).1
   rw [← h5, List.getElem?_take] at hj
   split at hj
   · simpa using hj
   · cases hj
theorem sortedF_any {w : World} {b n : Nat} {g : Int → Option Value} (h : MapX In64 3 encI w b n g) (hn : n ≤ 1000000) :
 Calls Tryz.prog 38 #[.func (.func 59) #[] #[.pointer (some ⟨w.heap.size, 0, none⟩)]] (w.alloc (.cells #[.map (some b)] 90)) (KeysF g (w.alloc (.cells #[.map (some b)] 90))) := by
 obtain ⟨D, hown, hsz, hnd, hwf, hmem⟩ := h.intKeys
 refine (callsIn_wide.1 (Tryz.slices_Sorted_keys_itF b _ D RM w hown (by rw [hsz]; unfold maxLen; omega) (by rw [hsz]; omega))).mono ?_
 rintro e w' ⟨v, ss, rfl, hS, hrow, _, hb⟩
 have hp := List.mergeSort_perm ss (fun x y : Int => decide (x ≤ y))
 rw [← hp.length_eq] at hrow
 obtain ⟨A, c, rfl, hAt, hB⟩ := ownsRow_atB hrow (by
  intro u hu
  obtain ⟨t, _, rfl⟩ := List.mem_map.1 hu
  rfl)
 have hpp := hp.trans hS
 refine ⟨_, A, c, rfl, hAt, hB, hb, ?_, fun x hx => hwf x (hpp.mem_iff.1 hx), fun x hx => (hpp.mem_iff).trans (hmem x hx)⟩
 have h1 := List.pairwise_mergeSort (le := fun x y : Int => decide (x ≤ y)) (fun a b c h h' => by simp only [decide_eq_true_eq] at *; omega) (fun a b => by simp only [Bool.or_eq_true, decide_eq_true_eq]; omega) ss
 have h2 : (ss.mergeSort (fun x y => decide (x ≤ y))).Nodup := hpp.nodup_iff.2 hnd
 exact List.Pairwise.imp₂ (fun a b h3 h4 => by simp only [decide_eq_true_eq] at h3; omega) h1 h2
end Go.Proofs.YtahhdjeclbagnaaGreatDoor
namespace Go.Proofs.YtahhdjeclbagnaaGreatDoor
open Go.RowKit Go.Maps Go.Sort Go.Shelf
attribute [local go_sem] Oper.semAt_some
def mkB (b : KBef) : Value := .agg #[.int .i64 b.ref, .int .i64 b.next]
set_option maxRecDepth 100000 in
theorem keyLitsI (m : Nat) {c : Value} {l : List Lit} (h : Tryz.prog.keyLits (m + 1) 3 [c] = some l) : ∃ x : Int, c = .int .i64 x ∧ In64 x := by
 unfold Program.keyLits at h
 rw [Tryz.underlying3] at h
 cases c <;> simp at h
 rename_i q a
 obtain ⟨⟨rfl, hw⟩, _⟩ := h
 exact ⟨a, rfl, hw⟩
set_option maxRecDepth 100000 in
theorem keyOf_B {key : Value} {kl : Lit} (h : keyOf Tryz.prog 61 key = some kl) : ∃ x : KBef, key = mkB x ∧ kl = encB x ∧ InB x := by
 have h0 := h
 unfold keyOf at h
 rw [Tryz.underlying61] at h
 simp only [keyTypeB, Bool.true_and] at h
 obtain ⟨m, hm⟩ : ∃ m, Tryz.prog.types.size + 1 = m + 2 := ⟨Tryz.prog.types.size - 1, by have h : 0 < Tryz.prog.types.size := of_decide_eq_true (by kernel_rfl); omega⟩
 rw [hm] at h
 cases key <;> simp [Value.formed, Tryz.underlying61, cellsB] at h
 rename_i cs
 obtain ⟨hsz, l, hl, _⟩ := h
 obtain ⟨c0, c1, rfl⟩ : ∃ c0 c1, cs = #[c0, c1] := by
  obtain ⟨l⟩ := cs
  match l, hsz with
  | [a, b], _ => exact ⟨a, b, rfl⟩
 unfold Program.keyLits at hl
 rw [Tryz.underlying61] at hl
 simp [cellsB, cellsI, Value.cells] at hl
 cases e0 : Tryz.prog.keyLits (m + 1) 3 [c0] with
 | none => rw [e0] at hl; cases hl
 | some l0 =>
  cases e1 : Tryz.prog.keyLits (m + 1) 3 [c1] with
  | none => rw [e0, e1] at hl; cases hl
  | some l1 =>
   obtain ⟨x, rfl, hx⟩ := keyLitsI m e0
   obtain ⟨y, rfl, hy⟩ := keyLitsI m e1
   have h1 := keyB (b := ⟨x, y⟩) ⟨hx, hy⟩
   simp only at h1
   rw [h1] at h0
   injection h0 with h0
   exact ⟨⟨x, y⟩, rfl, h0.symm, hx, hy⟩
theorem sameB (x : KBef) : (encB x).sameKey (encB x) = true := by simp [encB, Lit.sameKey]
def CollB (D0 : DataW Value) (left : Lit → Bool) (ss : List KBef) : Prop := ss.Nodup ∧ (∀ x ∈ ss, InB x) ∧ ∀ x, InB x → (x ∈ ss ↔ (Maps.has D0 (encB x) = true ∧ left (encB x) = false))
theorem CollB.start (D0 : DataW Value) : CollB D0 (Maps.has D0) [] := ⟨List.nodup_nil, by simp, fun x _ => by cases Maps.has D0 (encB x) <;> simp⟩
theorem CollB.step {D0 : DataW Value} {left : Lit → Bool} {ss : List KBef} (h : CollB D0 left ss) {x : KBef} (hx : InB x) {y : DataW Value} (hlk : left (encB x) = true) (hat : ∀ zd, D0.atKey (encB x) zd = y) : CollB D0 (fun z => left z && !z.sameKey (encB x)) (ss ++ [x]) := by
 have hhas : Maps.has D0 (encB x) = true := Maps.has_true_of_atKey hat
 have hnew : x ∉ ss := fun hm => by have := ((h.2.2 x hx).1 hm).2; rw [hlk] at this; cases this
 refine ⟨List.nodup_append.2 ⟨h.1, by simp, fun a ha b hb => by simp at hb; subst hb; exact fun e => hnew (e ▸ ha)⟩, fun y hy => ?_, fun y hy => ?_⟩
 · rcases List.mem_append.1 hy with h1 | h1
   · exact h.2.1 y h1
   · rw [List.mem_singleton.1 h1]; exact hx
 · by_cases e : y = x
   · subst e
     simp [hhas, sameB]
   · have hs : (encB y).sameKey (encB x) = false := by
      cases hq : (encB y).sameKey (encB x) with
      | false => rfl
      | true => exact absurd (encB_inj _ _ hy hx (WideAt.sameKey_eq hq)) e
     simp [h.2.2 y hy, e, hs]
theorem keysB_any (b : Nat) (w : World) : Calls Tryz.prog 41 #[.map (some b)] w (fun e w' => e = .returned (.func (.func 62) #[] #[.pointer (some ⟨w.heap.size, 0, none⟩)]) ∧ w' = w.alloc (.cells #[.map (some b)] 91)) := by
 go_enter Tryz.func41, Tryz.ntmps41
 go_wp2
 go_ret
 exact ⟨rfl, rfl⟩
def KeepB (mb b : Nat) (V V' : World) : Prop := V.heap.size ≤ V'.heap.size ∧ ∀ k o, (k = mb ∨ b ≤ k) → V.heap[k]? = some o → o.isCells = false → V'.heap[k]? = some o
theorem ranges_keep {K : TypeId} {R : Value → Option (DataW Value × List MemPlace)} {w w' : World} {b r n : Nat} {D : DataW Value} {left : Lit → Bool} {cnt : Nat} (h : w.ranges Tryz.prog K R b r n D left cnt) (hk : KeepB b r w w') : w'.ranges Tryz.prog K R b r n D left cnt := by
 obtain ⟨es, clock, since, seen, c0, hb, F, hs, hD, hr, rest⟩ := h
 exact ⟨es, clock, since, seen, c0, hk.2 b _ (.inl rfl) hb rfl, F, hs, hD, hk.2 r _ (.inr (Nat.le_refl _)) hr rfl, rest⟩
theorem turnS_grown {S : Nat → Prop} {V V' : World} {r : Nat} (h : V.grownBy V' (some r)) (hr : S r) (ho : ∃ o : Obj, V.heap[r]? = some o ∧ o.isCells = false) : TurnS S V V' :=
 ⟨h.os, h.tape, h.output, h.size, fun k hk hn => h.block k hk (fun e => by injection e with e; exact hn (by subst e; exact ⟨hr, ho⟩))⟩
set_option maxRecDepth 100000 in
set_option maxHeartbeats 4000000 in
theorem keysB_iter {Bm mb nn : Nat} {D0 : DataW Value} (n : Nat) (hn : 1 ≤ n) (I : Nat → List KBef → World → Prop) (W : World) (hm : W.cell? ⟨Bm, 0, none⟩ = some (.map (some mb))) (hown : W.ownsMap Tryz.prog 61 RM mb nn D0) :
 SeqG Fence.wide n Tryz.prog 62 #[.pointer (some ⟨Bm, 0, none⟩)] (fun (_ : Nat) (x : KBef) => #[mkB x]) (fun b V V' => TurnS (fun k => b ≤ k) V V') (KeepB mb) I (fun _ pre _ _ => pre.length < Maps.size D0) (fun _ _ _ _ => False) (fun xs => xs.length ≤ Maps.size D0 ∧ xs.Nodup ∧ (∀ x ∈ xs, InB x) ∧ ∀ x, InB x → (x ∈ xs ↔ Maps.has D0 (encB x) = true)) (fun _ => False) W := by
 intro l J JL hJI hJ0 hJM _ hY _
 have HJ0 := Lib.hid hJ0; clear hJ0
 have HJM := Lib.hid hJM; clear hJM
 have HY := Lib.hid hY; clear hY
 clear hJI
 refine callsIn_of_wp Tryz.func62 rfl trivial ?_ rfl
 simp only [Tryz.ntmps62, List.size_toArray, List.length_cons, List.length_nil, Nat.reduceAdd, Nat.reduceSub, Array.replicate_succ, Array.replicate_zero, List.push_toArray, List.append_toArray, List.nil_append, List.cons_append]
 gi_wp2_with (gi_at_range; refine wpListIn_range_own _ rfl _ 91 rfl 61 4 lawB Tryz.underlying91 _ mb nn _ rfl hown ?_; intro w0 hrg0 hg0 hs0)
 have hb0 : Below W.heap.size W w0 := ⟨hg0.os, hg0.tape, hg0.output, hg0.size, fun k hk => hg0.block k hk (fun e => by cases e)⟩
 have HJS := Lib.hid (HJ0.out W.heap.size w0 hb0 (Nat.le_refl _))
 have HRG0 := Lib.hid hrg0; clear hrg0
 have HOWN := Lib.hid hown; clear hown
 clear hg0 hs0 hb0 HJ0
 gi_loopw [3] (fun _ wr => ∃ (left : Lit → Bool) (cnt : Nat) (ss : List KBef), Hid (wr.ranges Tryz.prog 61 RM mb W.heap.size nn D0 left cnt) ∧ Hid (CollB D0 left ss) ∧ ss.length + cnt ≤ Maps.size D0 ∧ Hid (J W.heap.size ss wr))
  (fun _ wr => wr.rangeLeft mb W.heap.size)
 case atStart => exact ⟨_, _, [], HRG0, CollB.start D0, by simp, HJS⟩
 case round =>
  obtain ⟨left, cnt, ss, hrg, hC, hcs, hJs⟩ := hrel
  clear HRG0 HJS
  gi_wp2_with (gi_at_next; refine wpListIn_next_ranges _ rfl _ rfl 61 lawB RM mkB id (fun key kl hk => by obtain ⟨x, hx, _⟩ := keyOf_B hk; exact ⟨x, hx⟩) (fun v _ _ => ⟨v, rfl⟩) mb W.heap.size nn _ _ _ rfl hrg.out ?_ ?_)
  · intro hc0 hl0
    have HEND : Hid (ss.length ≤ Maps.size D0 ∧ ss.Nodup ∧ (∀ x ∈ ss, InB x) ∧ ∀ x, InB x → (x ∈ ss ↔ Maps.has D0 (encB x) = true)) := ⟨by omega, hC.out.1, hC.out.2.1, fun x hx => by rw [hC.out.2.2 x hx, hl0]; simp⟩
    clear hl0
    gi_wp2
    go_end0
    exact ⟨⟨_, rfl⟩, W.heap.size, Nat.le_refl _, .inl ⟨ss, HEND.out, hJs.out⟩⟩
  · intro x c kl yd yp w2 cnt2 hkey hlk hv hat hrg2 hlt hg2 hs2 hen
    obtain ⟨x', ex, rfl, hx⟩ := keyOf_B hkey
    obtain rfl : x = x' := by
     obtain ⟨a, b⟩ := x
     obtain ⟨c, d⟩ := x'
     simp only [mkB, Value.agg.injEq, Array.mk.injEq, List.cons.injEq, Value.int.injEq, true_and, and_true] at ex
     rw [ex.1, ex.2]
    have HC2 := Lib.hid (hC.out.step hx hlk hat)
    have HRG2 := Lib.hid hrg2; clear hrg2
    have hob : ∃ o : Obj, wr.heap[W.heap.size]? = some o ∧ o.isCells = false := by
     obtain ⟨o, ho, hw⟩ := hrg.out.iter_walk
     exact ⟨o, ho, Obj.not_cells_of_walk hw⟩
    have HT2 : Hid (TurnS (fun k => W.heap.size ≤ k) wr w2) := turnS_grown hg2 (Nat.le_refl _) hob
    have hlen : ss.length < Maps.size D0 := by omega
    have HLE : Hid (wr.rangeLeft mb W.heap.size = cnt) := hrg.out.left_eq
    clear hC hkey hlk hv hat hg2 hs2 hob
    obtain ⟨xr, xn⟩ := x
    simp only [mkB] at hen
    gi_upto_region 3 with (fail)
    generalize hWa : World.alloc _ _ = Wa
    obtain ⟨hba, hxa⟩ := bx1' hWa
    have q0 : Wa.cell? ⟨w2.heap.size, 0, none⟩ = some (.int .i64 xr) := (cell_of_row Wa _ 0 _ _ _ hxa).trans rfl
    have q1 : Wa.cell? ⟨w2.heap.size, 1, none⟩ = some (.int .i64 xn) := (cell_of_row Wa _ 1 _ _ _ hxa).trans rfl
    have hJ2 : J W.heap.size ss Wa := HJM.out _ _ _ _ hJs.out (HT2.out.trans (TurnS.of_below hba))
    have HRGa : Hid (Wa.ranges Tryz.prog 61 RM mb W.heap.size nn D0 (fun z => left z && !z.sameKey (encB ⟨xr, xn⟩)) cnt2) := ranges_keep HRG2.out ⟨hba.size, fun k o _ hk _ => (hba.block k (lt_of_heap hk)).trans hk⟩
    obtain ⟨fn, tmps, assign, body, hy, hR⟩ := HY.out _ ss ⟨xr, xn⟩ Wa hJ2 hlen
    simp only [mkB] at hy
    clear hWa hba hxa hen hJ2
    gi_wp2
    refine hR.mono ?_
    rintro e W3 ⟨rfl, hJ3, hk3⟩
    have HRG3 := Lib.hid (ranges_keep HRGa.out hk3)
    have HJ3 := Lib.hid hJ3
    clear hJ3 hk3 hR hy q0 q1
    gi_wp2
    go_roundw
    case rel => exact ⟨_, cnt2, ss ++ [⟨xr, xn⟩], HRG3, HC2, by rw [List.length_append, List.length_singleton]; omega, HJ3⟩
    case measure => rw [HRG3.out.left_eq, HLE.out]; exact hlt
end Go.Proofs.YtahhdjeclbagnaaGreatDoor
namespace Go.Proofs.YtahhdjeclbagnaaGreatDoor
open Go.RowKit Go.Maps Go.Sort Go.Shelf
attribute [local go_sem] Oper.semAt_some
theorem ownsRow_turn {S : Nat → Prop} {w w' : World} {B : Nat} {e : TypeId} {size n : Nat} {v : Value} {xs : List Value} (h : w.ownsRow B e size v n xs) (ht : TurnS S w w') : w'.ownsRow B e size v n xs := by
 refine ⟨h.1, ?_⟩
 rcases h.2 with h0 | ⟨g, cap, cur, hv, hB, hg, r⟩
 · exact .inl h0
 · exact .inr ⟨g, cap, cur, hv, hB, ht.cells hg, r⟩
theorem ownsRow_belowX {w w' : World} {B : Nat} {e : TypeId} {size n : Nat} {v : Value} {xs : List Value} (h : w.ownsRow B e size v n xs) (hb : Below w.heap.size w w') : w'.ownsRow B e size v n xs := by
 refine ⟨h.1, ?_⟩
 rcases h.2 with h0 | ⟨g, cap, cur, hv, hB, hg, r⟩
 · exact .inl h0
 · exact .inr ⟨g, cap, cur, hv, hB, (hb.block g (lt_of_heap hg)).trans hg, r⟩
theorem ownsRow_set {w : World} {B : Nat} {e : TypeId} {size n : Nat} {v : Value} {xs : List Value} (h : w.ownsRow B e size v n xs) {p : Addr} (hp : v.ownBlock ≠ some p.block) (u : Value) : (w.setCell p u).ownsRow B e size v n xs := by
 refine ⟨h.1, ?_⟩
 rcases h.2 with h0 | ⟨g, cap, cur, rfl, hB, hg, r⟩
 · exact .inl h0
 · refine .inr ⟨g, cap, cur, rfl, hB, ?_, r⟩
   rw [Below.heap_setCell _ _ _ g (fun e => hp (by rw [e]; rfl))]
   exact hg
theorem below_turn {S : Nat → Prop} {w V V' : World} (h : Below w.heap.size w V) (ht : TurnS S V V') (hS : ∀ k, S k → w.heap.size ≤ k) : Below w.heap.size w V' := h.trans (Upd.below ht h.size (fun k hk => hS k hk.1))
theorem ownBlock_ne {w : World} {B : Nat} {e : TypeId} {size n : Nat} {v : Value} {xs : List Value} (h : w.ownsRow B e size v n xs) {k : Nat} {cs : Array Value} {t : TypeId} {fz : Nat × Nat} (hk : w.heap[k]? = some (.cells cs t fz)) (hne : t ≠ e) : v.ownBlock ≠ some k := fun e' => by
 rcases h.2 with ⟨rfl, _⟩ | ⟨g, cap, cur, rfl, _, h3, _⟩
 · cases e'
 · simp only [Value.ownBlock, Option.some.injEq] at e'
   subst e'
   rw [hk] at h3
   injection h3 with h3
   injection h3 with _ h3 _
   exact hne h3
theorem wpListIn_append_one {F : Fence} {nf : Nat} {P : Program} {W : World} {ops : Array Oper} {rest : List Oper} {o : Oper} {a : Act} {Q : Exit → Act → World → Prop}
 (hg : o.guard = none) (s x : Operand) (T : TypeId) (hop : o.op = Op.call { callee := Callee.builtin Builtin.append, args := #[s, x], argTypes := #[T, T] })
 (e : TypeId) (i : TypeInfo) (z : Value) (size bytes : Nat) (ht : P.underlying T = some (.slice e)) (hi : P.info? e = some i) (hz : i.zero = some z) (hsize : i.size = size) (hby : i.bytes = bytes) (hzs : z.cells.size = size) (h0 : 0 < size)
 (B : Nat) (v : Value) (n : Nat) (xs : List Value) (hs : a.eval s = v) (hown : W.ownsRow B e size v n xs) (cs : List Value) (arr : Array Value) (harr : arr = cs.toArray) (hcs : cs.length = size) (h1 : ∀ u ∈ cs, u.oneCell' = true)
 (hx : a.eval x = .slice (some ⟨W.heap.size, 0, none⟩) 1 1) (hlen : n + 1 ≤ maxLen) (hb : (n + 1) * bytes ≤ 140737488355328) (hBW : B ≤ W.heap.size)
 (hK : ∀ g' c' w', w'.ownsRow B e size (.slice (some ⟨g', 0, none⟩) (n + 1) c') (n + 1) (xs ++ cs) → (W.alloc (.cells arr e)).grownBy w' v.ownBlock → wpListIn F nf P ops Q rest (a.put o.dst (.slice (some ⟨g', 0, none⟩) (n + 1) c')) w') :
 wpListIn F nf P ops Q (o :: rest) a (W.alloc (.cells arr e)) := by
 subst harr
 refine wpListIn_append_own _ hg s x T hop B e i z size bytes ht hi hz hsize hby hzs h0 v n xs hs (World.ownsRow.alloc hown _) ⟨W.heap.size, 0, none⟩ 1 1 cs hx (by omega)
  (fun j u hj => by
   rw [Addr.add_lit, cell_of_row _ _ (0 + j) _ _ _ (heap_alloc_new W _)]
   simpa using hj) h1 hlen hb (by simp; omega) ?_
 intro v' w' hown' hgrow hnil
 rcases hown'.2 with ⟨e, _⟩ | ⟨g, cap, cur, rfl, _⟩
 · have := (hnil.1 e).2; omega
 · exact hK g cap w' hown' hgrow
theorem ownsRow_form {w : World} {B : Nat} {e : TypeId} {size n : Nat} {v : Value} {xs : List Value} (h : w.ownsRow B e size v n xs) : ∃ A c, v = .slice A n c := by
 rcases h.2 with ⟨rfl, rfl, _⟩ | ⟨g, cap, cur, rfl, _⟩
 · exact ⟨_, _, rfl⟩
 · exact ⟨_, _, rfl⟩
theorem befCells_len (l : List KBef) : (befCells l).length = l.length * 2 := length_flat KBef.cells 2 (fun _ => rfl) l
theorem befCells_one (F : List KBef) : ∀ u ∈ befCells F, u.oneCell' = true := by
 intro u hu
 obtain ⟨x, _, hx⟩ := List.mem_flatMap.1 hu
 simp only [KBef.cells, List.mem_cons, List.not_mem_nil, or_false] at hx
 rcases hx with rfl | rfl <;> rfl
def CollPost (D0 : DataW Value) (w : World) (e : Ending) (w' : World) : Prop :=
 ∃ (T : List KBef) (v : Value), e = .returned v ∧ w'.ownsRow w.heap.size 61 2 v T.length (befCells T) ∧ Below w.heap.size w w' ∧ T.length ≤ Maps.size D0 ∧ T.Nodup ∧ (∀ x ∈ T, InB x) ∧ ∀ x, InB x → (x ∈ T ↔ Maps.has D0 (encB x) = true)
structure CollAt (w : World) (Bs : Nat) (pre : List KBef) (V : World) : Prop where
 box : ∃ v, V.heap[Bs]? = some (.cells #[v] 32 (0, 0)) ∧ V.ownsRow w.heap.size 61 2 v pre.length (befCells pre)
 below : Below w.heap.size w V
theorem CollAt.turn {w : World} {Bs : Nat} {pre : List KBef} {V V' : World} {S : Nat → Prop} (h : CollAt w Bs pre V) (ht : TurnS S V V') (hS : ∀ k, S k → w.heap.size ≤ k) : CollAt w Bs pre V' := by
 obtain ⟨⟨v, h1, h2⟩, h3⟩ := h
 exact ⟨⟨v, ht.cells h1, ownsRow_turn h2 ht⟩, below_turn h3 ht hS⟩
theorem keepB_turn {mb b D : Nat} {V V1 Y1 Y : World} (hmb : mb ≠ D + 1) (hb : D + 2 ≤ b) (h1 : TurnL D V V1) (hk : KeepB mb b V1 Y1) (h2 : TurnL D Y1 Y) : KeepB mb b V Y := by
 refine ⟨Nat.le_trans h1.size (Nat.le_trans hk.1 h2.size), fun k o hko ho hc => ?_⟩
 have hk1 : k ≠ D + 1 := by omega
 have e1 : V1.heap[k]? = some o := by rw [h1.same (fun h => hk1 h) (lt_of_heap ho)]; exact ho
 have e2 := hk.2 k o hko e1 hc
 rw [h2.same (fun h => hk1 h) (lt_of_heap e2)]
 exact e2
theorem keepB_upd {mb b : Nat} {V V' : World} {S : Nat → Prop} (hu : Upd S V V') (hS : ∀ k o, S k → V.heap[k]? = some o → o.isCells = true) : KeepB mb b V V' :=
 ⟨hu.size, fun k o _ hk ho => hu.keep hk (fun hs => by have := hS k o hs hk; rw [ho] at this; cases this)⟩
set_option maxRecDepth 100000 in
set_option maxHeartbeats 4000000 in
theorem appendSeqB_any {Bm mb nn : Nat} {D0 : DataW Value} (w : World) (hm : w.cell? ⟨Bm, 0, none⟩ = some (.map (some mb))) (hown : w.ownsMap Tryz.prog 61 RM mb nn D0) (hsz : Maps.size D0 ≤ 1000000) :
 Calls Tryz.prog 90 #[.slice none 0 0, .func (.func 62) #[] #[.pointer (some ⟨Bm, 0, none⟩)]] w (CollPost D0 w) := by
 have hml := hown.lt
 have hBm := World.block_lt_of_cell? w ⟨Bm, 0, none⟩ hm
 simp only at hBm
 have HM := Lib.hid hm; clear hm
 have HOWN := Lib.hid hown; clear hown
 refine (callsIn_wide (n := 4)).1 ?_
 refine callsIn_of_wp_marks Tryz.func90 rfl trivial ?_ rfl
 simp only [Tryz.ntmps90, List.size_toArray, List.length_cons, List.length_nil, Nat.reduceAdd, Nat.reduceSub, Array.replicate_succ, Array.replicate_zero, List.push_toArray, List.append_toArray, List.nil_append, List.cons_append]
 gi_upto_region 1 with (fail)
 generalize hW0 : World.alloc _ _ = W0
 obtain ⟨HB, hh0⟩ := bx1 hW0
 have HBX : Hid (W0.heap[w.heap.size]? = some (.cells #[.slice none 0 0] 32 (0, 0))) := hh0
 have hs0 : w.heap.size < W0.heap.size := lt_of_heap hh0
 clear hW0 hh0
 gi_wp2
 obtain ⟨ib, hbi, hbz, hbs, hbb⟩ := info_parts' (P := Tryz.prog) (t := 61) (z := some (.agg #[.int .i64 0, .int .i64 0])) (s := 2) (b := 16) (by kernel_rfl)
 refine wpIn_range_gen (α := KBef) rfl (by omega) (gf := 62) rfl trivial (enters_of Tryz.func62 (by kernel_rfl) rfl)
  (fun W1 h1 _ => keysB_iter (Bm := Bm) (mb := mb) (nn := nn) (D0 := D0) _ (by omega)
   (fun _ pre V => CollAt w w.heap.size pre V) W1 (((HB.out.trans (h1.mono HB.out.size)).cell (p := ⟨Bm, 0, none⟩) hBm).trans HM.out) (by
    have hb := HB.out.trans (h1.mono HB.out.size)
    obtain ⟨es, clock, h2, h3⟩ := HOWN.out
    exact ⟨es, clock, (hb.block mb hml).trans h2, h3⟩)) (fun _ _ => rfl)
  (fun _ _ _ => True) (fun _ _ _ _ h ht => h.turn ht (fun k hk => by omega)) (fun _ _ _ _ h _ => h) (fun _ _ _ _ _ h _ => h) (fun _ _ _ _ _ h _ => h) (fun _ _ _ _ _ hb h1 hk h2 => keepB_turn (by omega) hb h1 hk h2)
  (fun _ _ _ _ _ hb hm hk1 hk2 ho hc => by rw [hm.same (fun h => by omega) (lt_of_heap ho)]; exact ho) (fun _ _ _ _ hb h hm => h.turn hm (fun k hk => by omega)) (fun _ _ _ _ _ h _ => h)
  (fun x => [.cells #[.int .i64 x.ref, .int .i64 x.next] 61]) (fun _ V hV _ => ⟨⟨_, (hV.block _ hs0).trans HBX.out, World.ownsRow_nil _ _ _ _⟩, HB.out.trans (hV.mono HB.out.size)⟩) ?a1 ?assign ?body (fun _ _ _ _ _ _ _ _ h => h.elim) ?done (fun _ _ _ _ _ _ h => h.elim)
 case assign =>
  intro l b x W k K hk hK
  simp only [mkB]
  gi_wp2
  try rw [hk]
  exact hK
 case body =>
  as_aux_lemma =>
   rintro l b0 pre ⟨xr, xn⟩ W k hb hI hlen hk hbx
   have hq := hbx 0 _ rfl
   rw [Nat.add_zero] at hq
   simp only at hq
   have q0 : W.cell? ⟨k, 0, none⟩ = some (.int .i64 xr) := (cell_of_row W _ 0 _ _ _ hq).trans rfl
   have q1 : W.cell? ⟨k, 1, none⟩ = some (.int .i64 xn) := (cell_of_row W _ 1 _ _ _ hq).trans rfl
   obtain ⟨⟨v, hv, hrow⟩, hbw⟩ := hI
   obtain ⟨vA, vc, rfl⟩ := ownsRow_form hrow
   have b0' : W.cell? ⟨w.heap.size, 0, none⟩ = some (.slice vA pre.length vc) := (cell_of_row W _ 0 _ _ _ hv).trans rfl
   have HV := Lib.hid hv; clear hv
   have HROW := Lib.hid hrow; clear hrow
   have HBW := Lib.hid hbw; clear hbw
   clear hq hbx
   have hsW := HBW.out.size
   gi_wp2_with (gi_at_builtin; refine wpListIn_append_one rfl _ _ 32 rfl 61 ib (.agg #[.int .i64 0, .int .i64 0]) 2 16 Tryz.underlying32 hbi hbz hbs hbb rfl (by decide) w.heap.size _ pre.length _ rfl HROW.out [.int .i64 xr, .int .i64 xn] _ rfl rfl (by intro u hu; simp only [List.mem_cons, List.not_mem_nil, or_false] at hu; rcases hu with rfl | rfl <;> rfl) rfl (by unfold maxLen; omega) (by omega) (by omega) ?_; intro g6 c6 w6 h1 h2; refine Hid.out ?_)
   refine Lib.hid ?_
   have HBN : Hid ((Value.slice vA pre.length vc).ownBlock ≠ some w.heap.size) := ownBlock_ne HROW.out HV.out (by decide)
   have hlW : w.heap.size < W.heap.size := lt_of_heap HV.out
   have HV6 : Hid (w6.heap[w.heap.size]? = some (.cells #[.slice vA pre.length vc] 32 (0, 0))) := by
    show _ = _
    rw [h2.block _ (by rw [World.size_alloc]; omega) (fun e => HBN.out e.symm)]
    exact (Below.heap_alloc _ _ _ hlW).trans HV.out
   have HR6 : Hid (w6.ownsRow w.heap.size 61 2 (.slice (some ⟨g6, 0, none⟩) (pre.length + 1) c6) (pre ++ [(⟨xr, xn⟩ : KBef)]).length (befCells (pre ++ [(⟨xr, xn⟩ : KBef)]))) := by
    show World.ownsRow _ _ _ _ _ _ _
    rw [List.length_append, List.length_singleton]
    have e : befCells (pre ++ [(⟨xr, xn⟩ : KBef)]) = befCells pre ++ [.int .i64 xr, .int .i64 xn] := by unfold befCells; rw [List.flatMap_append]; rfl
    rw [e]
    exact h1
   have HBN6 : Hid ((Value.slice (some ⟨g6, 0, none⟩) (pre.length + 1) c6).ownBlock ≠ some w.heap.size) := ownBlock_ne HR6.out HV6.out (by decide)
   have HU6 : Hid (Upd (fun k => (Value.slice vA pre.length vc).ownBlock = some k ∨ k = w.heap.size) W w6) := by
    refine Upd.trans ((Upd.refl _ W).alloc _) (Upd.of_grown h2) (fun i _ h => .inl h)
   have b6 : w6.cell? ⟨w.heap.size, 0, none⟩ = some (.slice vA pre.length vc) := (cell_of_row w6 _ 0 _ _ _ HV6.out).trans rfl
   have f6 : w6.frozen? ⟨w.heap.size, 0, none⟩ = false := by simp [World.frozen?, HV6.out]
   clear h1 h2 b0' q0 q1
   gi_wp2
   have hu : Upd (fun k => (Value.slice vA pre.length vc).ownBlock = some k ∨ k = w.heap.size) W (w6.setCell ⟨w.heap.size, 0, none⟩ (.slice (some ⟨g6, 0, none⟩) (pre.length + 1) c6)) := HU6.out.setCell (.inl (.inr rfl)) _
   refine ⟨keepsFrom_upd _ hu ?hc, keepB_upd hu ?hc, ⟨_, ?_, ownsRow_set HR6.out HBN6.out _⟩, HBW.out.trans (hu.below hsW (fun k hk => ?_))⟩
   case hc =>
    rintro k o (e | rfl) ho
    · rcases HROW.out.2 with ⟨he, _⟩ | ⟨g, cap, cur, he, _, hg, _⟩
      · rw [he] at e; cases e
      · rw [he] at e
        simp only [Value.ownBlock, Option.some.injEq] at e
        subst e
        rw [hg] at ho
        cases ho
        rfl
    · rw [HV.out] at ho
      cases ho
      rfl
   · have h := heap_setCell_same (i := 0) HV6.out (.slice (some ⟨g6, 0, none⟩) (pre.length + 1) c6)
     exact h
   · rcases hk with e | rfl
     · exact (HROW.out.lt k e).1
     · exact Nat.le_refl _
 case done =>
  rintro D b0 xs W hD hb ⟨hS0, hS1, hS2, hS3⟩ ⟨⟨v, hv, hrow⟩, hbw⟩ hK
  obtain ⟨vA, vc, rfl⟩ := ownsRow_form hrow
  have b0' : W.cell? ⟨w.heap.size, 0, none⟩ = some (.slice vA xs.length vc) := (cell_of_row W _ 0 _ _ _ hv).trans rfl
  have HROW := Lib.hid hrow; clear hrow
  have HBW := Lib.hid hbw; clear hbw
  have HK := Lib.hid hK; clear hK
  have H1 := Lib.hid hS1; clear hS1
  have H2 := Lib.hid hS2; clear hS2
  have H3 := Lib.hid hS3; clear hS3
  clear hv
  gi_wp2
  refine ⟨by simp, .inl ⟨_, _, rfl, run_takeDeferred HK.out, ?_⟩⟩
  have ht := TurnS.putObj (S := fun k => k = D) (.deferred none) rfl HK.out rfl
  refine ⟨.slice vA xs.length vc, by simp [results, Tryz.results90, go_sem], ⟨xs, _, rfl, ownsRow_turn HROW.out ht, below_turn HBW.out ht (fun k hk => by omega), hS0, H1.out, H2.out, H3.out⟩⟩
end Go.Proofs.YtahhdjeclbagnaaGreatDoor
