/-
  CsO; CsA; CsR; CsB
-/
import Derived.Test.YtahhdjeclbagnaaGreatDoorQ18
import Derived.Test.YtahhdjeclbagnaaGreatDoorQ15
import Derived.Test.YtahhdjeclbagnaaGreatDoorQ13
import Derived.Shelf.Abstract
import Derived.Shelf.RegionOpen
import Derived.OwnWalkIn
import Derived.TacticsInMore
import Derived.LoopNIn
import Derived.LoopIn
namespace Go.Proofs.YtahhdjeclbagnaaGreatDoor
open Go.RowKit
theorem updOn {S : Nat → Prop} {a w z : World} (h : Upd S a w) (hz : Below w.heap.size w z) : Upd S a z := h.trans (Upd.of_below hz) (fun i hi hs => by have := h.size; omega)
theorem updCell {S : Nat → Prop} {w w' : World} (h : Upd S w w') {b o : Nat} (hb : b < w.heap.size) (hn : ¬ S b) : w'.cell? ⟨b, o, none⟩ = w.cell? ⟨b, o, none⟩ := by
 simp [World.cell?, h.block b hb hn]
theorem updFrozen {S : Nat → Prop} {w w' : World} (h : Upd S w w') {b o : Nat} (hb : b < w.heap.size) (hn : ¬ S b) : w'.frozen? ⟨b, o, none⟩ = w.frozen? ⟨b, o, none⟩ := by
 simp [World.frozen?, h.block b hb hn]
theorem updAt {S : Nat → Prop} {w w' : World} {size n c : Nat} {A : Option Addr} {xs : List Value} (h : At w size A n c xs) (hs : 0 < size) (hu : Upd S w w') (hS : ∀ b off, A = some ⟨b, off, none⟩ → ¬ S b) : At w' size A n c xs := by
 refine ⟨⟨h.1.1, h.1.2.1, fun hm => ?_⟩, h.2⟩
 obtain ⟨b, off, rfl, hlt, hc⟩ := h.1.form hm hs
 refine ⟨_, rfl, fun j u hj => ?_⟩
 have hjl : j < n * size := by rw [← h.1.1]; exact (List.getElem?_eq_some_iff.1 hj).1
 rw [Addr.add_lit, updCell hu hlt (hS b off rfl), hc j hjl, hj]
theorem MapX.upd {α : Type} {P : α → Prop} {K : TypeId} {enc : α → Lit} {w w' : World} {b n : Nat} {g : α → Option Value} {S : Nat → Prop} (h : MapX P K enc w b n g) (hu : Upd S w w') (hb : ¬ S b) : MapX P K enc w' b n g := by
 obtain ⟨D, ⟨es, c, h1, h2, h3, h4⟩, h5⟩ := h
 exact ⟨D, ⟨es, c, hu.keep h1 hb, h2, h3, h4⟩, h5⟩
def Own (w : World) (t : TypeId) (b : Nat) (cs : List Value) : Prop := ∃ tl : List Value, w.heap[b]? = some (.cells (cs ++ tl).toArray t (0, 0))
section
variable {w w' : World} {t : TypeId} {b : Nat} {cs : List Value}
theorem Own.lt (h : Own w t b cs) : b < w.heap.size := by obtain ⟨tl, h⟩ := h; exact lt_of_heap h
theorem Own.cell (h : Own w t b cs) {i : Nat} {u : Value} (hi : cs[i]? = some u) : w.cell? ⟨b, i, none⟩ = some u := by
 obtain ⟨tl, h⟩ := h
 rw [cell_of_row w b i _ _ _ h, List.getElem?_toArray, List.getElem?_append_left (List.getElem?_eq_some_iff.1 hi).1, hi]
theorem Own.frozen (h : Own w t b cs) (i : Nat) : w.frozen? ⟨b, i, none⟩ = false := by obtain ⟨tl, h⟩ := h; simp [World.frozen?, h]
theorem Own.set (h : Own w t b cs) {i : Nat} (hi : i < cs.length) (u : Value) : Own (w.setCell ⟨b, i, none⟩ u) t b (cs.set i u) := by
 obtain ⟨tl, h⟩ := h
 refine ⟨tl, ?_⟩
 rw [heap_setCell_same h, List.setIfInBounds_toArray, List.set_append, if_pos hi]
theorem Own.keep {S : Nat → Prop} (h : Own w t b cs) (hu : Upd S w w') (hb : ¬ S b) : Own w' t b cs := by
 obtain ⟨tl, h⟩ := h
 exact ⟨tl, hu.keep h hb⟩
theorem Own.below (h : Own w t b cs) (hb : Below w.heap.size w w') : Own w' t b cs := by
 have hl := h.lt
 obtain ⟨tl, h⟩ := h
 exact ⟨tl, (hb.block b hl).trans h⟩
theorem Own.new (w : World) (t : TypeId) (cs : List Value) : Own (w.alloc (.cells cs.toArray t)) t w.heap.size cs := ⟨[], by rw [List.append_nil]; exact heap_alloc_new w _⟩
theorem Own.toAt {size n c : Nat} (h : Own w t b cs) (hl : cs.length = n * size) (h1 : ∀ u ∈ cs, u.oneCell' = true) (hn : n ≤ c) (hc : c ≤ maxLen) : At w size (some ⟨b, 0, none⟩) n c cs :=
 ⟨⟨hl, h1, fun _ => ⟨_, rfl, fun j u hj => by rw [Addr.add_lit, Nat.zero_add]; exact h.cell hj⟩⟩, fun e => by simp at e, hn, hc⟩
end
theorem set_ne {α : Type} {l : List α} {i j : Nat} {a : α} (h : i ≠ j) : (l.set i a)[j]? = l[j]? := by rw [List.getElem?_set, if_neg h]
theorem flat_set {α : Type} (f : α → List Value) (s : Nat) (h : ∀ a, (f a).length = s) (a' : α) (u : Value) : ∀ (l : List α) (k j : Nat) (a : α), l[k]? = some a → j < s → f a' = (f a).set j u → (l.flatMap f).set (k * s + j) u = (l.set k a').flatMap f
 | [], _, _, _, hk, _, _ => by simp at hk
 | b :: l, 0, j, a, hk, hj, hf => by
  simp at hk; subst hk
  rw [List.flatMap_cons, Nat.zero_mul, Nat.zero_add, List.set_append, if_pos (by rw [h]; exact hj), List.set_cons_zero, List.flatMap_cons, hf]
 | b :: l, k + 1, j, a, hk, hj, hf => by
  rw [List.flatMap_cons, List.set_append, if_neg (by rw [h, Nat.succ_mul]; omega), h, show (k + 1) * s + j - s = k * s + j by rw [Nat.succ_mul]; omega, flat_set f s h a' u l k j a (by simpa using hk) hj hf, List.set_cons_succ, List.flatMap_cons]
def pairC (p : Nat × Nat) : List Value := [.int .i64 p.1, .int .i64 p.2]
def pairCells (P : List (Nat × Nat)) : List Value := P.flatMap pairC
theorem pairCells_len (P : List (Nat × Nat)) : (pairCells P).length = P.length * 2 := length_flat pairC 2 (fun _ => rfl) P
theorem pairCells_get {P : List (Nat × Nat)} {i j : Nat} {p : Nat × Nat} (hi : P[i]? = some p) (hj : j < 2) : (pairCells P)[i * 2 + j]? = (pairC p)[j]? := get_flat pairC 2 (fun _ => rfl) P i j p hi hj
theorem pairCells_set {P : List (Nat × Nat)} {i : Nat} (hi : i < P.length) (q : Nat × Nat) : ((pairCells P).set (i * 2) (.int .i64 q.1)).set (i * 2 + 1) (.int .i64 q.2) = pairCells (P.set i q) := by
 obtain ⟨x, y⟩ := q
 have h0 := List.getElem?_eq_getElem hi
 have h1 := flat_set pairC 2 (fun _ => rfl) (x, (P[i]).2) (.int .i64 x) P i 0 _ h0 (by omega) rfl
 have h2 := flat_set pairC 2 (fun _ => rfl) (x, y) (.int .i64 y) (P.set i (x, (P[i]).2)) i 1 (x, (P[i]).2) (by rw [List.getElem?_set, if_pos rfl, if_pos hi]) (by omega) rfl
 unfold pairCells
 rw [Nat.add_zero] at h1
 rw [h1, h2, List.set_set]
theorem pairCells_one (P : List (Nat × Nat)) : ∀ u ∈ pairCells P, u.oneCell' = true := by
 intro u hu
 obtain ⟨p, _, hp⟩ := List.mem_flatMap.1 hu
 simp only [pairC, List.mem_cons, List.not_mem_nil, or_false] at hp
 rcases hp with rfl | rfl <;> rfl
def pairsTo (P : List (Nat × Nat)) (k : Nat) : List (Nat × Nat) := P.take k ++ List.replicate (P.length - k) (0, 0)
theorem pairsTo_len (P : List (Nat × Nat)) {k : Nat} (hk : k ≤ P.length) : (pairsTo P k).length = P.length := by simp [pairsTo]; omega
theorem pairsTo_all (P : List (Nat × Nat)) : pairsTo P P.length = P := by simp [pairsTo]
theorem pairsTo_succ {P : List (Nat × Nat)} {k : Nat} {p : Nat × Nat} (hp : P[k]? = some p) : (pairsTo P k).set k p = pairsTo P (k + 1) := by
 have hk : k < P.length := (List.getElem?_eq_some_iff.1 hp).1
 unfold pairsTo
 rw [List.set_append, if_neg (by rw [List.length_take]; omega), List.length_take, Nat.min_eq_left (by omega), Nat.sub_self, List.take_add_one, hp, show P.length - k = (P.length - (k + 1)) + 1 by omega, List.replicate_succ, List.set_cons_zero]
 simp
theorem made_pairs (n : Nat) : (madeCells (Value.cells (.agg #[.int .i64 0, .int .i64 0])) (n * 2)).toList = pairCells (List.replicate n (0, 0)) := by
 apply List.ext_getElem?
 intro j
 have hl := pairCells_len (List.replicate n (0, 0))
 rw [List.length_replicate] at hl
 rcases Nat.lt_or_ge j (n * 2) with hj | hj
 · have h1 := pairCells_get (P := List.replicate n (0, 0)) (i := j / 2) (j := j % 2) (p := (0, 0)) (by rw [List.getElem?_replicate, if_pos (by omega)]) (by omega)
   rw [show j / 2 * 2 + j % 2 = j by omega] at h1
   rw [h1]
   rcases Nat.mod_two_eq_zero_or_one j with h2 | h2 <;> simp [madeCells, hj, h2, pairC, Value.cells]
 · rw [List.getElem?_eq_none (by rw [Array.length_toList, size_madeCells]; exact hj), List.getElem?_eq_none (by rw [hl]; exact hj)]
end Go.Proofs.YtahhdjeclbagnaaGreatDoor
namespace Go.Proofs.YtahhdjeclbagnaaGreatDoor
open Go.RowKit
theorem distinct_ne {F : List KFact} (h : Distinct F) {i j : Nat} {x y : KFact} (hx : F[i]? = some x) (hy : F[j]? = some y) (hij : i < j) : x.ref ≠ y.ref := by
 obtain ⟨hi, rfl⟩ := List.getElem?_eq_some_iff.1 hx
 obtain ⟨hj, rfl⟩ := List.getElem?_eq_some_iff.1 hy
 have h2 := List.pairwise_iff_getElem.1 h i j (by simpa using hi) (by simpa using hj) hij
 simp at h2
 omega
def PairsPost (P : List (Nat × Nat)) (w : World) (e : Ending) (w' : World) : Prop :=
 ∃ (A : Option Addr) (c : Nat), e = .returned (.slice A P.length c) ∧ At w' 2 A P.length c (pairCells P) ∧ (∀ b off, A = some ⟨b, off, none⟩ → w.heap.size ≤ b) ∧ Below w.heap.size w w'
theorem idx_known {F : List KFact} {r : Int} (hD : Distinct F) (h : ∃ x ∈ F, x.ref = r) : ∃ x, F[idxOf F r]? = some x ∧ x.ref = r := by
 obtain ⟨x, hx, rfl⟩ := h
 obtain ⟨i, hi⟩ := List.mem_iff_getElem?.1 hx
 exact ⟨x, by rw [idxOf_get hD hi]; exact hi, rfl⟩
set_option maxRecDepth 100000 in
set_option maxHeartbeats 4000000 in
theorem places_any (fv : FV) (f : KFile) (w : World) (hF : FileAt w fv f) (hR : ∀ x ∈ f.facts, In64 x.ref) (hD : Distinct f.facts) (hF4 : f.facts.length ≤ 4000) (hO4 : f.orders.length ≤ 4000) (hK : Known f.facts f.orders) : Calls Tryz.prog 50 #[fv.val f] w (PairsPost (pairsOf f.facts f.orders) w) := by
 obtain ⟨⟨fA, fc⟩, ⟨oA, oc⟩⟩ := fv
 obtain ⟨ho, F, O⟩ := f
 obtain ⟨hl1, hl2⟩ := hF.lenF
 obtain ⟨hl3, hl4⟩ := hF.lenO
 simp only at hl1 hl2 hl3 hl4
 have hfx : F.length ≤ 9223372036854775807 := by omega
 have hox : O.length ≤ 9223372036854775807 := by omega
 have HFS : Hid (At w 6 fA F.length fc (factCells F)) := hF.facts
 have HOS : Hid (At w 2 oA O.length oc (befCells O)) := hF.orders
 clear hF
 have HR : Hid (∀ x ∈ F, In64 x.ref) := hR
 clear hR
 have HD : Hid (Distinct F) := hD
 clear hD
 have HK : Hid (Known F O) := hK
 clear hK
 simp only at hF4 hO4
 have hmm := @run_makeMap Tryz.prog
 simp only [FV.val, FV.cells]
 go_enter Tryz.func50, Tryz.ntmps50
 go_upto_region 2 with (fail)
 have hsz : (w.alloc (Obj.cells #[.int .i64 ho, .slice fA F.length fc, .slice oA O.length oc] 34)).heap.size = w.heap.size + 1 := World.size_alloc _ _
 generalize hW0 : World.alloc w _ = W0 at hsz ⊢
 obtain ⟨HB, hh0⟩ := bx1 hW0; clear hW0
 obtain ⟨k0_0, k0_1, k0_2⟩ := kc3 hh0
 clear hh0
 have hM : MapX In64 3 encI (W0.alloc (.map #[] 0)) (w.heap.size + 1) 0 (fun _ => none) := by rw [← hsz]; exact MapX.made W0
 generalize hW1 : W0.alloc (.map #[] 0) = W1 at hM ⊢
 have hb1 : Below W0.heap.size W0 W1 := by rw [← hW1]; exact Below.alloc' (Below.refl _ _) _
 clear hW1
 have hM' : MapX In64 3 encI (⟨W1, hb1⟩ : Bl W0).val (w.heap.size + 1) 0 (fun _ => none) := hM
 clear hM
 change Code.wp _ _ _ _ (Bl.val (⟨W1, hb1⟩ : Bl W0))
 generalize (⟨W1, hb1⟩ : Bl W0) = s0 at hM' ⊢
 have HM := Lib.hid hM'; clear hM'
 clear hb1
 go_wp2
 go_loopg [13] F.length (fun gk v13 wr => ∃ (j n : Nat) (g : Int → Option Value) (z : Bl W0), gk = F.length - j ∧ j ≤ F.length ∧ v13 = .int .i64 j ∧ wr = z.val ∧ n ≤ j ∧ Hid (MapX In64 3 encI z.val (w.heap.size + 1) n g) ∧ Hid (∀ (i : Nat) (x : KFact), i < j → F[i]? = some x → g x.ref = some (.int .i64 i)))
 case atStart => exact ⟨0, 0, _, _, rfl, Nat.zero_le _, rfl, rfl, Nat.le_refl _, HM, fun i x h _ => absurd h (Nat.not_lt_zero _)⟩
 case round =>
  obtain ⟨j, n, g, z, hgk, hj, rfl, rfl, hn, hmx, hgf⟩ := hrel
  have HGK := Lib.hid hgk; clear hgk
  by_cases hlt : j < F.length
  · obtain ⟨fb, fo, hA0, hfb, hcell⟩ := HFS.out.fact (by omega)
    subst hA0
    obtain ⟨⟨re, ac, lo, hi, fi, se⟩, hx⟩ : ∃ x, F[j]? = some x := ⟨F[j], List.getElem?_eq_getElem hlt⟩
    obtain ⟨e0, e1, e2, e3, e4, e5⟩ := rzz6 (fun z hz => hcell j _ hx z (Below.step HB.out hz)) rfl
    have hre : In64 re := HR.out _ (List.mem_of_getElem? hx)
    have HX := Lib.hid hx; clear hx
    have j1 : (j : Int) < (F.length : Int) := by omega
    go_upto_region 5 with (fail)
    generalize hWa : World.alloc _ _ = Wa
    obtain ⟨hba, hxa⟩ := bx1' hWa
    clear hWa
    have HPa : Hid (Below W0.heap.size W0 Wa) := Below.step z.prop hba
    obtain ⟨d0, d1, d2, d3, d4, d5⟩ := kc6 hxa
    have hma : MapX In64 3 encI Wa (w.heap.size + 1) n g := hmx.out.below hmx.out.lt hba
    obtain ⟨w2, hrun, hm2, htr⟩ := MapX.put encI_inj lawI Tryz.underlying79 hma (by unfold maxLen; omega) hre (keyI hre) (.int .i64 j)
    have q0 := d0 ⟨Wa, Below.refl _ _⟩
    clear d0 d1 d2 d3 d4 d5 hxa hba
    simp only at q0
    have HM2 := Lib.hid hm2; clear hm2
    have HTR := Lib.hid htr; clear htr
    clear hma
    go_wp2
    go_roundg (F.length - (j + 1))
    case measure => have := HGK.out; omega
    case rel =>
     refine ⟨j + 1, _, _, ⟨w2, HPa.out.trans (mapTurned_below HTR.out (by omega))⟩, rfl, by omega, by go_num, rfl, ?_, HM2, ?_⟩
     · split <;> omega
     · intro i x hi' hxi
       by_cases hij : i = j
       · subst hij
         have h := HX.out
         rw [hxi] at h
         injection h with h
         subst h
         simp
       · have hne : x.ref ≠ re := distinct_ne HD.out hxi HX.out (by omega)
         show (if x.ref = re then some (Value.int .i64 j) else g x.ref) = _
         rw [if_neg hne]
         exact hgf.out i x (by omega) hxi
  · obtain rfl : j = F.length := by omega
    have HMZ := hmx; clear hmx HGK
    obtain ⟨ip, hip, hpz, hps, hpb⟩ := info_parts' (P := Tryz.prog) (t := 115) (z := some (.agg #[.int .i64 0, .int .i64 0])) (s := 2) (b := 16) (by kernel_rfl)
    have hmk := run_makeSlice (P := Tryz.prog) (w := z.val) 113 115 ip _ Tryz.underlying113 hip hpz .i64 .i64 (O.length : Int) (O.length : Int) (by omega) (by omega) (by rw [hps]; simp; omega) (by rw [hpb]; omega) (by omega)
    simp only [Int.toNat_natCast, hps] at hmk
    go_upto_region 8 with (fail)
    obtain ⟨pb, hpb⟩ : ∃ pb, pb = z.val.heap.size := ⟨_, rfl⟩
    rw [← hpb]
    generalize hWb : World.alloc _ _ = Wb
    have hnw : Wb.heap[pb]? = some (.cells (madeCells (Value.cells (.agg #[.int .i64 0, .int .i64 0])) (O.length * 2)) 115 (0, 0)) := by
     rw [← hWb, hpb]
     exact heap_alloc_new z.val _
    have hbb : Below z.val.heap.size z.val Wb := by rw [← hWb]; exact Below.alloc' (Below.refl _ _) _
    have HMX := Lib.hid (HMZ.out.below HMZ.out.lt hbb)
    have hPb : Below W0.heap.size W0 Wb := Below.step z.prop hbb
    have hpl : (pairsOf F O).length = O.length := by simp [pairsOf]
    have HOW : Hid (Own Wb 115 pb (pairCells (pairsTo (pairsOf F O) 0))) := by
     refine ⟨[], ?_⟩
     rw [List.append_nil, pairsTo, hpl, List.take_zero, List.nil_append, Nat.sub_zero, ← made_pairs, Array.toArray_toList]
     exact hnw
    have hzs := z.prop.size
    have hpW : w.heap.size + 1 < pb := by have := HMZ.out.lt; omega
    have hbW : pb < Wb.heap.size := lt_of_heap hnw
    have HGF : Hid (∀ b ∈ O, (∃ i : Nat, idxOf F b.ref = i ∧ In64 b.ref ∧ g b.ref = some (.int .i64 i)) ∧ ∃ i : Nat, idxOf F b.next = i ∧ In64 b.next ∧ g b.next = some (.int .i64 i)) := fun b hb => by
     obtain ⟨h1, h2⟩ := HK.out b hb
     have key : ∀ r, (∃ x ∈ F, x.ref = r) → ∃ i : Nat, idxOf F r = i ∧ In64 r ∧ g r = some (.int .i64 i) := fun r hr => by
      obtain ⟨x, hx, rfl⟩ := idx_known HD.out hr
      exact ⟨_, rfl, HR.out x (List.mem_of_getElem? hx), hgf.out _ x (List.getElem?_eq_some_iff.1 hx).1 hx⟩
     exact ⟨key _ h1, key _ h2⟩
    have HBW : Hid (Below w.heap.size w Wb) := Below.step HB.out hPb
    have HPL := Lib.hid hpl; clear hpl
    have HPE := Lib.hid hpb; clear hpb
    have kb := k0_2 ⟨Wb, hPb⟩
    simp only at kb
    clear hgf hPb hbb hWb hnw hmk HMZ hn hzs hpz hps hip k0_0 k0_1 k0_2
    go_wp2
    go_loopg [30] O.length (fun gk v30 wr => ∃ (j : Nat), gk = O.length - j ∧ j ≤ O.length ∧ v30 = .int .i64 j ∧ Hid (Own wr 115 pb (pairCells (pairsTo (pairsOf F O) j))) ∧ Hid (Upd (fun k => k = pb) Wb wr))
    case atStart => exact ⟨0, rfl, Nat.zero_le _, rfl, HOW, Upd.refl _ _⟩
    case round =>
     obtain ⟨j, hgk, hj, rfl, HO2, HU⟩ := hrel
     have HGK := Lib.hid hgk; clear hgk HOW
     by_cases hlt : j < O.length
     · obtain ⟨ob, oo, hA0, hob, hcell⟩ := HOS.out.bef (by omega)
       subst hA0
       obtain ⟨⟨br, bn⟩, hx⟩ : ∃ x, O[j]? = some x := ⟨O[j], List.getElem?_eq_getElem hlt⟩
       obtain ⟨⟨i1, hi1, hr1, hg1⟩, i2, hi2, hr2, hg2⟩ := HGF.out _ (List.mem_of_getElem? hx)
       have hsW := HBW.out.size
       have e0 : wr.cell? ⟨ob, oo + j * 2, none⟩ = some (.int .i64 br) := (updCell HU.out (by omega) (by omega)).trans (hcell j _ hx Wb HBW.out 0 (by omega))
       have e1 : wr.cell? ⟨ob, oo + j * 2 + 1, none⟩ = some (.int .i64 bn) := (updCell HU.out (by omega) (by omega)).trans (hcell j _ hx Wb HBW.out 1 (by omega))
       have HX : Hid ((pairsOf F O)[j]? = some (i1, i2)) := by show _ = _; unfold pairsOf; rw [List.getElem?_map, hx]; simp only [Option.map_some]; rw [hi1, hi2]
       clear hx hcell hi1 hi2
       have hpr := HU.out.size
       have hbr : pb < wr.heap.size := by omega
       have j1 : (j : Int) < (O.length : Int) := by omega
       go_upto_region 11 with (fail)
       generalize hWa : World.alloc _ _ = Wa
       obtain ⟨hba, hxa⟩ := bx1' hWa
       have HUa : Hid (Upd (fun k => k = pb) Wb Wa) := updOn HU.out hba
       have hOa := HO2.out.below hba
       have hMa := HMX.out.upd (w' := Wa) HUa.out (by omega)
       have q0 : Wa.cell? ⟨wr.heap.size, 0, none⟩ = some (.int .i64 br) := (cell_of_row Wa _ 0 _ _ _ hxa).trans rfl
       have q1 : Wa.cell? ⟨wr.heap.size, 1, none⟩ = some (.int .i64 bn) := (cell_of_row Wa _ 1 _ _ _ hxa).trans rfl
       have l1 := MapX.look lawI Tryz.underlying79 hMa (zeroI Wa) hr1 (keyI hr1)
       have l2 := MapX.look lawI Tryz.underlying79 hMa (zeroI Wa) hr2 (keyI hr2)
       rw [hg1] at l1
       rw [hg2] at l2
       simp only [Option.getD_some] at l1 l2
       have hlen := pairsTo_len (pairsOf F O) (k := j) (by rw [HPL.out]; exact hj)
       obtain ⟨⟨x0, y0⟩, hgt⟩ : ∃ p, (pairsTo (pairsOf F O) j)[j]? = some p := ⟨_, List.getElem?_eq_getElem (by rw [hlen, HPL.out]; exact hlt)⟩
       have p0 : Wa.cell? ⟨pb, j * 2, none⟩ = some (.int .i64 x0) := hOa.cell (pairCells_get hgt (j := 0) (by omega))
       have p1 : Wa.cell? ⟨pb, j * 2 + 1, none⟩ = some (.int .i64 y0) := hOa.cell (pairCells_get hgt (j := 1) (by omega))
       have f0 := hOa.frozen (j * 2)
       have f1 := hOa.frozen (j * 2 + 1)
       clear hgt
       have HOA := Lib.hid hOa; clear hOa
       clear hWa hba hxa hMa hr1 hr2 hg1 hg2 e0 e1
       go_wp2
       go_roundg (O.length - (j + 1))
       case measure => have := HGK.out; omega
       case rel =>
        refine ⟨j + 1, rfl, by omega, by go_num, ?_, ?_⟩
        · have h := (HOA.out.set (i := j * 2) (by rw [pairCells_len, hlen, HPL.out]; omega) (.int .i64 i1)).set (i := j * 2 + 1) (by rw [List.length_set, pairCells_len, hlen, HPL.out]; omega) (.int .i64 i2)
          rw [pairCells_set (by rw [hlen, HPL.out]; exact hlt) (i1, i2), pairsTo_succ HX.out] at h
          exact h
        · exact (HUa.out.setCell (p := ⟨pb, j * 2, none⟩) (.inl rfl) (.int .i64 i1)).setCell (p := ⟨pb, j * 2 + 1, none⟩) (.inl rfl) (.int .i64 i2)
     · obtain rfl : j = O.length := by omega
       have hall := HO2.out
       rw [← HPL.out, pairsTo_all] at hall
       have hAt := hall.toAt (n := (pairsOf F O).length) (c := O.length) (pairCells_len _) (pairCells_one _) (by rw [HPL.out]; exact Nat.le_refl _) (by unfold maxLen; omega)
       have HAT := Lib.hid hAt; clear hAt hall
       go_wp2
       go_ret
       refine ⟨_, _, by rw [HPL.out]; rfl, HAT.out, fun b off e => by simp only [Option.some.injEq, Addr.mk.injEq] at e; omega, HBW.out.trans (HU.out.below HBW.out.size (fun k hk => by omega))⟩
end Go.Proofs.YtahhdjeclbagnaaGreatDoor
namespace Go.Proofs.YtahhdjeclbagnaaGreatDoor
open Go.RowKit
def allocs (W : World) (l : List Obj) : World := l.foldl World.alloc W
theorem allocs_below (W : World) (l : List Obj) : Below W.heap.size W (allocs W l) := by
 unfold allocs
 induction l generalizing W with
 | nil => exact Below.refl _ _
 | cons o l ih => exact Below.step (Below.alloc' (Below.refl _ _) o) (ih _)
theorem allocs_get {W : World} {l : List Obj} {i : Nat} {o : Obj} (h : l[i]? = some o) : (allocs W l).heap[W.heap.size + i]? = some o := by
 induction l generalizing W i with
 | nil => simp at h
 | cons a l ih =>
  show (allocs (W.alloc a) l).heap[_]? = _
  cases i with
  | zero =>
   simp only [List.getElem?_cons_zero, Option.some.injEq] at h
   subst h
   have h1 := World.alloc_heap_new W a
   rw [Nat.add_zero, (allocs_below (W.alloc a) l).block _ (lt_of_heap h1)]
   exact h1
  | succ i =>
   have h1 := ih (W := W.alloc a) (i := i) (by simpa using h)
   rw [World.size_alloc] at h1
   rw [show W.heap.size + (i + 1) = W.heap.size + 1 + i by omega]
   exact h1
def TurnS (S : Nat → Prop) (V V' : World) : Prop := Upd (fun k => S k ∧ ∃ o : Obj, V.heap[k]? = some o ∧ o.isCells = false) V V'
theorem TurnS.of_below {S : Nat → Prop} {V V' : World} (h : Below V.heap.size V V') : TurnS S V V' := ⟨h.os, h.tape, h.output, h.size, fun k hk _ => h.block k hk⟩
theorem TurnS.putObj {S : Nat → Prop} {V : World} {l : Nat} {o : Obj} (o' : Obj) (hl : S l) (h : V.heap[l]? = some o) (hc : o.isCells = false) : TurnS S V (V.putObj l o') :=
 ⟨rfl, rfl, rfl, by simp [World.putObj], fun k _ hn => World.putObj_heap_other (fun e => hn (by subst e; exact ⟨hl, o, h, hc⟩))⟩
theorem TurnS.cells {S : Nat → Prop} {V V' : World} (h : TurnS S V V') {k : Nat} {cs : Array Value} {t : TypeId} {fz : Nat × Nat} (hk : V.heap[k]? = some (.cells cs t fz)) : V'.heap[k]? = some (.cells cs t fz) :=
 h.keep hk (fun ⟨_, o, ho, hc⟩ => by rw [hk] at ho; cases ho; cases hc)
theorem TurnS.same {S : Nat → Prop} {V V' : World} (h : TurnS S V V') {k : Nat} (hn : ¬ S k) (hk : k < V.heap.size) : V'.heap[k]? = V.heap[k]? := h.block k hk (fun ⟨h1, _⟩ => hn h1)
theorem TurnS.trans {S : Nat → Prop} {a b c : World} (h : TurnS S a b) (k : TurnS S b c) : TurnS S a c := by
 refine Upd.trans h k (fun i hi ⟨h1, o, ho, hc⟩ => ?_)
 by_cases hz : S i ∧ ∃ o : Obj, a.heap[i]? = some o ∧ o.isCells = false
 · exact hz
 · rw [h.block i hi hz] at ho
   exact absurd ⟨h1, o, ho, hc⟩ hz
abbrev TurnL (D : Nat) (V V' : World) : Prop := TurnS (fun k => k = D + 1) V V'
theorem updTurn {S Z : Nat → Prop} {a V V' : World} (h : Upd S a V) (ht : TurnS Z V V') (hZ : ∀ k, Z k → a.heap.size ≤ k) : Upd S a V' :=
 Upd.trans h ht (fun i hi ⟨h1, _⟩ => by have := hZ i h1; omega)
theorem keepsFrom_upd {S : Nat → Prop} {W W' : World} (B : Nat) (hu : Upd S W W') (hS : ∀ k o, S k → W.heap[k]? = some o → o.isCells = true) : KeepsFrom B W W' :=
 ⟨hu.size, fun k o _ hk ho => hu.keep hk (fun hs => by have := hS k o hs hk; rw [ho] at this; cases this)⟩
theorem Own.isCells {w : World} {t : TypeId} {b : Nat} {cs : List Value} (h : Own w t b cs) {o : Obj} (ho : w.heap[b]? = some o) : o.isCells = true := by
 obtain ⟨tl, h⟩ := h
 rw [h] at ho
 cases ho
 rfl
theorem Own.turn {S : Nat → Prop} {w w' : World} {t : TypeId} {b : Nat} {cs : List Value} (h : Own w t b cs) (ht : TurnS S w w') : Own w' t b cs := by
 obtain ⟨tl, h⟩ := h
 exact ⟨tl, ht.cells h⟩
def SeqG {α : Type} (F : Fence) (n : Nat) (P : Program) (g : Nat) (lb : Array Value) (encs : Nat → α → Array Value) (Mv : Nat → World → World → Prop) (Kp : Nat → World → World → Prop) (I : Nat → List α → World → Prop) (Ok OkL : Nat → List α → α → World → Prop) (S SL : List α → Prop) (W : World) : Prop :=
 ∀ (l : Nat) (J JL : Nat → List α → World → Prop), (∀ b pre V, J b pre V → I b pre V) →
  (∀ b V, Below W.heap.size W V → W.heap.size ≤ b → J b [] V) →
  (∀ b pre V V', J b pre V → Mv b V V' → J b pre V') → (∀ b pre V V', JL b pre V → Mv b V V' → JL b pre V') →
  (∀ b pre x V, J b pre V → Ok b pre x V → YieldAt F (n - 1) P l (encs b x) V fun e V' => e = .returned (.bool true) ∧ J b (pre ++ [x]) V' ∧ Kp b V V') →
  (∀ b pre x V, J b pre V → OkL b pre x V → YieldAt F (n - 1) P l (encs b x) V fun e V' => e = .returned (.bool false) ∧ JL b (pre ++ [x]) V' ∧ Kp b V V') →
  CallsIn F n P g (#[.func (.yield l) #[] #[]] ++ lb) W fun e W' => (∃ v, e = .returned v) ∧ ∃ b, W.heap.size ≤ b ∧ ((∃ xs, S xs ∧ J b xs W') ∨ ∃ xs, SL xs ∧ JL b xs W')
theorem wpIn_range_gen {F : Fence} {n : Nat} {P : Program} {α : Type} {g : Operand} {ps : Array Tmp} {assign body : Code} {Q : Exit → Act → World → Prop} {a : Act} {w : World}
 (hro : F.round = none) (h1 : 1 ≤ n) {gf : Nat} {lb : Array Value} (hg : a.eval g = .func (.func gf) #[] lb) (hFg : F.fn gf) (eg : ∀ args w, (callFunc gf args).run P w = .ok (.enter gf args) w)
 {encs : Nat → α → Array Value} {Mv : Nat → World → World → Prop} {Kp : Nat → World → World → Prop} {I : Nat → List α → World → Prop} {Ok OkL : Nat → List α → α → World → Prop} {S SL : List α → Prop}
 (hseq : ∀ W1, Below w.heap.size w W1 → W1.heap.size = w.heap.size + 2 → SeqG F (n - 1) P gf lb encs Mv Kp I Ok OkL S SL W1) (hps : ∀ b x, (encs b x).size = ps.size)
 (Ix : Nat → List α → World → Prop) (hI : ∀ b pre V V', I b pre V → TurnL w.heap.size V V' → I b pre V') (hIx : ∀ b pre V V', Ix b pre V → TurnL w.heap.size V V' → Ix b pre V')
 (hOk : ∀ b pre x V V', Ok b pre x V → TurnL w.heap.size V V' → Ok b pre x V') (hOkL : ∀ b pre x V V', OkL b pre x V → TurnL w.heap.size V V' → OkL b pre x V')
 (hKp : ∀ b V V1 Y1 Y, w.heap.size + 2 ≤ b → TurnL w.heap.size V V1 → Kp b V1 Y1 → TurnL w.heap.size Y1 Y → Kp b V Y)
 (hMv : ∀ b V V' k o, w.heap.size + 2 ≤ b → Mv b V V' → k < w.heap.size + 2 → w.heap.size ≤ k → V.heap[k]? = some o → o.isCells = false → V'.heap[k]? = some o)
 (hMI : ∀ b pre V V', w.heap.size + 2 ≤ b → I b pre V → Mv b V V' → I b pre V') (hMIx : ∀ b pre V V', w.heap.size + 2 ≤ b → Ix b pre V → Mv b V V' → Ix b pre V')
 (bx : α → List Obj) (h0 : ∀ b V, Below w.heap.size w V → w.heap.size + 2 ≤ b → I b [] V) (a₁ : Nat → α → Nat → Act)
 (hassign : ∀ (l b : Nat) (x : α) (W : World) (k : Nat) (K : Act → World → Prop), W.heap.size = k → K (a₁ b x k) (allocs W (bx x)) → assign.wpIn (F.inRound l) (n - 1 - 1) P (Exit.then K (fun _ _ _ => False)) { tmps := (ps.zip (encs b x)).foldl (fun t (p, v) => t.setIfInBounds p v) a.tmps, defers := [] } W)
 (hbody : ∀ (l b : Nat) (pre : List α) (x : α) (W : World) (k : Nat), w.heap.size + 2 ≤ b → I b pre W → Ok b pre x W → w.heap.size + 2 ≤ k → (∀ i o, (bx x)[i]? = some o → W.heap[k + i]? = some o) → body.wpIn (F.inRound l) (n - 1 - 1) P (fun e _ W' => e = .normal ∧ KeepsFrom w.heap.size W W' ∧ Kp b W W' ∧ I b (pre ++ [x]) W') (a₁ b x k) W)
 (hleave : ∀ (l b : Nat) (pre : List α) (x : α) (W : World) (k : Nat), w.heap.size + 2 ≤ b → I b pre W → OkL b pre x W → w.heap.size + 2 ≤ k → (∀ i o, (bx x)[i]? = some o → W.heap[k + i]? = some o) → body.wpIn (F.inRound l) (n - 1 - 1) P (fun e _ W' => e = .ret ∧ KeepsFrom w.heap.size W W' ∧ Kp b W W' ∧ Ix b (pre ++ [x]) W') (a₁ b x k) W)
 (hdone : ∀ (D b : Nat) (xs : List α) (W : World), w.heap.size ≤ D → w.heap.size + 2 ≤ b → S xs → I b xs W → W.heap[D]? = some (.deferred (some [])) → Q .normal { a with defers := { target := .collected D, args := #[] } :: a.defers } W)
 (hstop : ∀ (D b : Nat) (xs : List α) (W : World), w.heap.size ≤ D → w.heap.size + 2 ≤ b → SL xs → Ix b xs W → W.heap[D]? = some (.deferred (some [])) → Code.ret.wpIn F n P Q { a with defers := { target := .collected D, args := #[] } :: a.defers } W) :
 (Code.rangeFunc g ps assign body).wpIn F n P Q a w := by
 refine wpIn_rangeFunc fun fn hfn => ?_
 rw [hro]
 generalize hD : w.heap.size = D
 obtain ⟨rec, hrec⟩ : ∃ rec : LoopState → Option Code → Loop, rec = fun st pe => { state := st, pending := pe, fn, tmps := a.tmps, params := ps, assign, body, defers := D } := ⟨_, rfl⟩
 obtain ⟨W1, hW1⟩ : ∃ W1, (w.alloc (.deferred (some []))).alloc (.loop (rec .ready none)) = W1 := ⟨_, rfl⟩
 have hL1 : W1.heap[D + 1]? = some (.loop (rec .ready none)) := by
  have h := World.alloc_heap_new (w.alloc (.deferred (some []))) (.loop (rec .ready none))
  rw [World.size_alloc, hD, hW1] at h
  exact h
 have hK1 : W1.heap[D]? = some (.deferred (some [])) := by
  rw [← hW1, ← hD]
  exact (Below.heap_alloc _ _ _ (by simp)).trans (World.alloc_heap_new w _)
 have hsz : W1.heap.size = D + 2 := by rw [← hW1, ← hD]; simp
 have hB1 : Below w.heap.size w W1 := by rw [← hW1]; exact Below.alloc' (Below.alloc' (Below.refl _ _) _) _
 have hseq1 := hseq W1 hB1 (by rw [hsz, hD])
 rw [hD] at hI hIx hOk hOkL hKp hMv hMI hMIx h0 hbody hleave hdone hstop
 refine ⟨D + 1, [{ target := .collected D, args := #[] }], W1, { target := .fn (.func gf) lb, args := #[.func (.yield (D + 1)) #[] #[]] }, W1, gf, #[.func (.yield (D + 1)) #[] #[]] ++ lb, W1, ?_, ?_, ?_, ?_, fun _ => h1, ?_⟩
 · have h := run_enterLoop_outer (P := P) (w := w) fn a.tmps ps assign body
   rw [hD] at h
   rw [h, ← hW1, hrec]
 · simp only [resolve, hg]
   simp [go_sem]
 · intro f' hf'
   simp [Target.leads] at hf'
   subst hf'
   exact hFg
 · simp [invoke, go_sem, eg]
 · refine (hseq1 (D + 1) (fun b pre W => D + 2 ≤ b ∧ I b pre W ∧ W.heap[D + 1]? = some (.loop (rec .ready none)) ∧ W.heap[D]? = some (.deferred (some [])))
    (fun b pre W => D + 2 ≤ b ∧ Ix b pre W ∧ W.heap[D + 1]? = some (.loop (rec .done (some .ret))) ∧ W.heap[D]? = some (.deferred (some []))) (fun _ _ _ h => h.2.1) ?_ ?_ ?_ ?_ ?_).mono ?_
   · intro b V hV hb
     rw [hsz] at hb
     exact ⟨hb, h0 b V (by rw [← hD]; exact hB1.trans (hV.mono (by rw [hsz]; omega))) hb, (hV.block _ (lt_of_heap hL1)).trans hL1, (hV.block _ (lt_of_heap hK1)).trans hK1⟩
   · rintro b pre V V' ⟨hb, hi, hl, hk⟩ hs
     exact ⟨hb, hMI b pre V V' hb hi hs, hMv b V V' _ _ hb hs (by omega) (by omega) hl rfl, hMv b V V' _ _ hb hs (by omega) (by omega) hk rfl⟩
   · rintro b pre V V' ⟨hb, hi, hl, hk⟩ hs
     exact ⟨hb, hMIx b pre V V' hb hi hs, hMv b V V' _ _ hb hs (by omega) (by omega) hl rfl, hMv b V V' _ _ hb hs (by omega) (by omega) hk rfl⟩
   · rintro b pre x W0 ⟨hb, hi0, hl0, hk0⟩ hok0
     have hy := run_yield (P := P) (args := encs b x) hl0 (by rw [hrec]; exact hps b x)
     rw [hrec] at hy
     refine ⟨fn, _, assign, body, hy, roundIn_of_wpIn hfn (hassign _ b x W0 _ _ rfl ?_)⟩
     have hbw := allocs_below W0 (bx x)
     have hbx : ∀ i o, (bx x)[i]? = some o → (allocs W0 (bx x)).heap[W0.heap.size + i]? = some o := fun i o h => allocs_get h
     have hbD : D + 1 < W0.heap.size := lt_of_heap hl0
     have hl := (hbw.block _ (lt_of_heap hl0)).trans hl0
     have hk := (hbw.block _ (lt_of_heap hk0)).trans hk0
     have ht0 : TurnL D W0 (allocs W0 (bx x)) := TurnS.of_below hbw
     have hi := hI _ _ _ _ hi0 ht0
     have hok := hOk _ _ _ _ _ hok0 ht0
     generalize hW : allocs W0 (bx x) = W at hbw hbx hl hk hi hok ht0 ⊢
     have hlt : D + 1 < W.heap.size := lt_of_heap hl
     refine ⟨_, run_beginRound hl (by rw [hrec]), ?_⟩
     have htp : TurnL D W (W.putObj (D + 1) (.loop { rec .ready none with state := .busy })) := TurnS.putObj _ rfl hl rfl
     generalize hB : W.putObj (D + 1) (.loop { rec .ready none with state := .busy }) = WB at htp
     have hl2 : WB.heap[D + 1]? = some (.loop { rec .ready none with state := .busy }) := by rw [← hB]; exact World.putObj_heap_same hlt
     have hk2 : WB.heap[D]? = some (.deferred (some [])) := by rw [← hB]; exact (World.putObj_heap_other (by omega)).trans hk
     have hx2 : ∀ i o, (bx x)[i]? = some o → WB.heap[W0.heap.size + i]? = some o := fun i o h => by rw [← hB]; exact (World.putObj_heap_other (by omega)).trans (hbx i o h)
     refine wpIn_mono (hbody _ b pre x WB _ hb (hI _ _ _ _ hi htp) (hOk _ _ _ _ _ hok htp) (by omega) hx2) ?_
     rintro e a3 W3 ⟨rfl, hk3, hkp, hi3⟩
     have hl3 := hk3.same _ _ (by omega) hl2 rfl
     have hk4 := hk3.same _ _ (Nat.le_refl _) hk2 rfl
     have hr3 := run_endRound (P := P) none hl3
     refine ⟨_, _, hr3, rfl, ⟨hb, hI _ _ _ _ hi3 (TurnS.putObj _ rfl hl3 rfl), ?_, (World.putObj_heap_other (by omega)).trans hk4⟩, ?_⟩
     · rw [World.putObj_heap_same (lt_of_heap hl3), hrec]
       rfl
     · exact hKp _ _ _ _ _ hb (ht0.trans htp) hkp (TurnS.putObj _ rfl hl3 rfl)
   · rintro b pre x W0 ⟨hb, hi0, hl0, hk0⟩ hok0
     have hy := run_yield (P := P) (args := encs b x) hl0 (by rw [hrec]; exact hps b x)
     rw [hrec] at hy
     refine ⟨fn, _, assign, body, hy, roundIn_of_wpIn hfn (hassign _ b x W0 _ _ rfl ?_)⟩
     have hbw := allocs_below W0 (bx x)
     have hbx : ∀ i o, (bx x)[i]? = some o → (allocs W0 (bx x)).heap[W0.heap.size + i]? = some o := fun i o h => allocs_get h
     have hbD : D + 1 < W0.heap.size := lt_of_heap hl0
     have hl := (hbw.block _ (lt_of_heap hl0)).trans hl0
     have hk := (hbw.block _ (lt_of_heap hk0)).trans hk0
     have ht0 : TurnL D W0 (allocs W0 (bx x)) := TurnS.of_below hbw
     have hi := hI _ _ _ _ hi0 ht0
     have hok := hOkL _ _ _ _ _ hok0 ht0
     generalize hW : allocs W0 (bx x) = W at hbw hbx hl hk hi hok ht0 ⊢
     have hlt : D + 1 < W.heap.size := lt_of_heap hl
     refine ⟨_, run_beginRound hl (by rw [hrec]), ?_⟩
     have htp : TurnL D W (W.putObj (D + 1) (.loop { rec .ready none with state := .busy })) := TurnS.putObj _ rfl hl rfl
     generalize hB : W.putObj (D + 1) (.loop { rec .ready none with state := .busy }) = WB at htp
     have hl2 : WB.heap[D + 1]? = some (.loop { rec .ready none with state := .busy }) := by rw [← hB]; exact World.putObj_heap_same hlt
     have hk2 : WB.heap[D]? = some (.deferred (some [])) := by rw [← hB]; exact (World.putObj_heap_other (by omega)).trans hk
     have hx2 : ∀ i o, (bx x)[i]? = some o → WB.heap[W0.heap.size + i]? = some o := fun i o h => by rw [← hB]; exact (World.putObj_heap_other (by omega)).trans (hbx i o h)
     refine wpIn_mono (hleave _ b pre x WB _ hb (hI _ _ _ _ hi htp) (hOkL _ _ _ _ _ hok htp) (by omega) hx2) ?_
     rintro e a3 W3 ⟨rfl, hk3, hkp, hi3⟩
     have hl3 := hk3.same _ _ (by omega) hl2 rfl
     have hk4 := hk3.same _ _ (Nat.le_refl _) hk2 rfl
     have hr3 := run_endRound (P := P) (some .ret) hl3
     refine ⟨_, _, hr3, rfl, ⟨hb, hIx _ _ _ _ hi3 (TurnS.putObj _ rfl hl3 rfl), ?_, (World.putObj_heap_other (by omega)).trans hk4⟩, ?_⟩
     · rw [World.putObj_heap_same (lt_of_heap hl3), hrec]
       rfl
     · exact hKp _ _ _ _ _ hb (ht0.trans htp) hkp (TurnS.putObj _ rfl hl3 rfl)
   · rintro e W2 ⟨⟨v, rfl⟩, b, hb, (⟨xs, hS, _, hi, hl, hk⟩ | ⟨xs, hS, _, hi, hl, hk⟩)⟩
     · have he := run_endLoop (P := P) hl (by rw [hrec]; simp)
       exact ⟨none, _, by rw [hrec] at he; exact he, hdone _ b xs _ (Nat.le_refl _) (by omega) hS (hI _ _ _ _ hi (TurnS.putObj _ rfl hl rfl)) ((World.putObj_heap_other (by omega)).trans hk)⟩
     · have he := run_endLoop (P := P) hl (by rw [hrec]; simp)
       exact ⟨some .ret, _, by rw [hrec] at he; exact he, hstop _ b xs _ (Nat.le_refl _) (by omega) hS (hIx _ _ _ _ hi (TurnS.putObj _ rfl hl rfl)) ((World.putObj_heap_other (by omega)).trans hk)⟩
end Go.Proofs.YtahhdjeclbagnaaGreatDoor
namespace Go.Proofs.YtahhdjeclbagnaaGreatDoor
open Go.RowKit Go.Shelf
attribute [local go_sem] Oper.semAt_some
def chgC (x : Nat × Int × Int) : List Value := [.int .i64 x.1, .int .i64 x.2.1, .int .i64 x.2.2]
theorem backwardP_any (A : Option Addr) (n c : Nat) (w : World) : Calls Tryz.prog 92 #[.slice A n c] w (fun e w' => e = .returned (.func (.func 110) #[] #[.pointer (some ⟨w.heap.size, 0, none⟩)]) ∧ w' = w.alloc (.cells #[.slice A n c] 113)) := by
 go_enter Tryz.func92, Tryz.ntmps92
 go_wp2
 go_ret
 exact ⟨rfl, rfl⟩
set_option maxRecDepth 100000 in
set_option maxHeartbeats 4000000 in
theorem backwardP_iter {Bw : Nat} {A : Option Addr} {c : Nat} {P : List (Nat × Nat)} (n : Nat) (hn : 1 ≤ n) (I : Nat → List (Nat × Nat × Nat) → World → Prop) (W : World)
 (hI : ∀ b pre W, I b pre W → W.cell? ⟨Bw, 0, none⟩ = some (.slice A P.length c) ∧ At W 2 A P.length c (P.flatMap pairC)) :
 SeqG Fence.wide n Tryz.prog 110 #[.pointer (some ⟨Bw, 0, none⟩)] (fun (_ : Nat) (x : Nat × Nat × Nat) => #[.int .i64 x.1, .agg (pairC x.2).toArray]) (fun _ _ _ => False) (fun _ _ _ => True) I (fun _ pre x _ => pre.map Prod.snd = P.reverse.take pre.length ∧ x.1 + 1 + pre.length = P.length ∧ P[x.1]? = some x.2) (fun _ _ _ _ => False) (fun xs => xs.map Prod.snd = P.reverse) (fun _ => False) W := by
 intro l J JL hJI hJ0 _ _ hY _
 have h0 := hJ0 W.heap.size W (Below.refl _ _) (Nat.le_refl _)
 clear hJ0
 have HI := Lib.hid hI; clear hI
 have HJI := Lib.hid hJI; clear hJI
 have HY := Lib.hid hY; clear hY
 have HJ0 := Lib.hid h0; clear h0
 obtain ⟨hb0, hA0⟩ := HI.out _ _ _ (HJI.out _ _ _ HJ0.out)
 have hx1 := hA0.2.2.1
 have hx2 := hA0.2.2.2
 unfold maxLen at hx2
 clear hA0
 refine callsIn_of_wp Tryz.func110 rfl trivial ?_ rfl
 simp only [Tryz.ntmps110, List.size_toArray, List.length_cons, List.length_nil, Nat.reduceAdd, Nat.reduceSub, Array.replicate_succ, Array.replicate_zero, List.push_toArray, List.append_toArray, List.nil_append, List.cons_append]
 gi_wp2
 gi_loopw [3] (fun v wr => ∃ (k : Nat) (m : Int) (pre : List (Nat × Nat × Nat)), k ≤ P.length ∧ m = (P.length : Int) - 1 - k ∧ v = .int .i64 m ∧ Hid (pre.length = k) ∧ Hid (pre.map Prod.snd = P.reverse.take k) ∧ Hid (J W.heap.size pre wr)) (fun v _ => (intOf v + 1).toNat)
 case atStart => exact ⟨0, (P.length : Int) - 1, [], Nat.zero_le _, by omega, by go_num, rfl, rfl, HJ0⟩
 case round =>
  obtain ⟨k, m, pre, hk, hm, rfl, hpl, hpm, HJ⟩ := hrel
  by_cases hlt : k < P.length
  · obtain ⟨i, rfl⟩ : ∃ i : Nat, m = i := ⟨P.length - 1 - k, by omega⟩
    have hik : i + 1 + k = P.length := by omega
    obtain ⟨⟨a0, a1⟩, hx⟩ : ∃ x, P[i]? = some x := ⟨P[i], List.getElem?_eq_getElem (by omega)⟩
    obtain ⟨hb1, hA1⟩ := HI.out _ _ _ (HJI.out _ _ _ HJ.out)
    obtain ⟨b, off, hA, hbl, hc0⟩ := hA1.1.form (by omega) (by omega)
    subst hA
    have hc : ∀ j, j < 2 → wr.cell? ⟨b, off + i * 2 + j, none⟩ = (pairC (a0, a1))[j]? := fun j hj => by
     rw [Nat.add_assoc, hc0 _ (by omega)]
     exact get_flat pairC 2 (fun _ => rfl) P i j _ hx hj
    have e0 : wr.cell? ⟨b, off + i * 2, none⟩ = some (.int .i64 a0) := hc 0 (by omega)
    have e1 : wr.cell? ⟨b, off + i * 2 + 1, none⟩ = some (.int .i64 a1) := hc 1 (by omega)
    clear hc hc0 hA1 hbl
    have i1 : (i : Int) < (P.length : Int) := by omega
    obtain ⟨fn, tmps, assign, body, hy, hR⟩ := HY.out _ pre (i, (a0, a1)) wr HJ.out ⟨by rw [hpl.out]; exact hpm.out, by rw [hpl.out]; exact hik, hx⟩
    simp only [pairC] at hy
    have HX := Lib.hid hx; clear hx hm
    have hpx : P.length ≤ 9223372036854775807 := by omega
    gi_wp2
    refine hR.mono ?_
    rintro e W3 ⟨rfl, hJ3, _⟩
    gi_wp2
    go_roundw
    case rel =>
     refine ⟨k + 1, _, pre ++ [(i, (a0, a1))], by omega, ?_, by go_num, ?_, ?_, hJ3⟩
     · omega
     · show _ = _
       rw [List.length_append, hpl.out]; rfl
     · show _ = _
       rw [List.map_append, hpm.out, List.take_add_one, List.getElem?_reverse (by omega), show P.length - 1 - k = i by omega, HX.out]
       rfl
    case measure => simp [intOf]
  · obtain rfl : k = P.length := by omega
    obtain rfl : m = -1 := by omega
    gi_wp2
    go_end0
    exact ⟨⟨_, rfl⟩, W.heap.size, Nat.le_refl _, .inl ⟨pre, by rw [hpm.out, List.take_of_length_le (by simp)], HJ.out⟩⟩
theorem backwardC_any (A : Option Addr) (n c : Nat) (w : World) : Calls Tryz.prog 76 #[.slice A n c] w (fun e w' => e = .returned (.func (.func 95) #[] #[.pointer (some ⟨w.heap.size, 0, none⟩)]) ∧ w' = w.alloc (.cells #[.slice A n c] 108)) := by
 go_enter Tryz.func76, Tryz.ntmps76
 go_wp2
 go_ret
 exact ⟨rfl, rfl⟩
set_option maxRecDepth 100000 in
set_option maxHeartbeats 4000000 in
theorem backwardC_iter {Bw : Nat} {A : Option Addr} {c : Nat} {P : List (Nat × Int × Int)} (n : Nat) (hn : 1 ≤ n) (I : Nat → List (Nat × Nat × Int × Int) → World → Prop) (W : World)
 (hI : ∀ b pre W, I b pre W → W.cell? ⟨Bw, 0, none⟩ = some (.slice A P.length c) ∧ At W 3 A P.length c (P.flatMap chgC)) :
 SeqG Fence.wide n Tryz.prog 95 #[.pointer (some ⟨Bw, 0, none⟩)] (fun (_ : Nat) (x : Nat × Nat × Int × Int) => #[.int .i64 x.1, .agg (chgC x.2).toArray]) (fun _ _ _ => False) (fun _ _ _ => True) I (fun _ pre x _ => pre.map Prod.snd = P.reverse.take pre.length ∧ x.1 + 1 + pre.length = P.length ∧ P[x.1]? = some x.2) (fun _ _ _ _ => False) (fun xs => xs.map Prod.snd = P.reverse) (fun _ => False) W := by
 intro l J JL hJI hJ0 _ _ hY _
 have h0 := hJ0 W.heap.size W (Below.refl _ _) (Nat.le_refl _)
 clear hJ0
 have HI := Lib.hid hI; clear hI
 have HJI := Lib.hid hJI; clear hJI
 have HY := Lib.hid hY; clear hY
 have HJ0 := Lib.hid h0; clear h0
 obtain ⟨hb0, hA0⟩ := HI.out _ _ _ (HJI.out _ _ _ HJ0.out)
 have hx1 := hA0.2.2.1
 have hx2 := hA0.2.2.2
 unfold maxLen at hx2
 clear hA0
 refine callsIn_of_wp Tryz.func95 rfl trivial ?_ rfl
 simp only [Tryz.ntmps95, List.size_toArray, List.length_cons, List.length_nil, Nat.reduceAdd, Nat.reduceSub, Array.replicate_succ, Array.replicate_zero, List.push_toArray, List.append_toArray, List.nil_append, List.cons_append]
 gi_wp2
 gi_loopw [3] (fun v wr => ∃ (k : Nat) (m : Int) (pre : List (Nat × Nat × Int × Int)), k ≤ P.length ∧ m = (P.length : Int) - 1 - k ∧ v = .int .i64 m ∧ Hid (pre.length = k) ∧ Hid (pre.map Prod.snd = P.reverse.take k) ∧ Hid (J W.heap.size pre wr)) (fun v _ => (intOf v + 1).toNat)
 case atStart => exact ⟨0, (P.length : Int) - 1, [], Nat.zero_le _, by omega, by go_num, rfl, rfl, HJ0⟩
 case round =>
  obtain ⟨k, m, pre, hk, hm, rfl, hpl, hpm, HJ⟩ := hrel
  by_cases hlt : k < P.length
  · obtain ⟨i, rfl⟩ : ∃ i : Nat, m = i := ⟨P.length - 1 - k, by omega⟩
    have hik : i + 1 + k = P.length := by omega
    obtain ⟨⟨a0, ⟨a1, a2⟩⟩, hx⟩ : ∃ x, P[i]? = some x := ⟨P[i], List.getElem?_eq_getElem (by omega)⟩
    obtain ⟨hb1, hA1⟩ := HI.out _ _ _ (HJI.out _ _ _ HJ.out)
    obtain ⟨b, off, hA, hbl, hc0⟩ := hA1.1.form (by omega) (by omega)
    subst hA
    have hc : ∀ j, j < 3 → wr.cell? ⟨b, off + i * 3 + j, none⟩ = (chgC (a0, a1, a2))[j]? := fun j hj => by
     rw [Nat.add_assoc, hc0 _ (by omega)]
     exact get_flat chgC 3 (fun _ => rfl) P i j _ hx hj
    have e0 : wr.cell? ⟨b, off + i * 3, none⟩ = some (.int .i64 a0) := hc 0 (by omega)
    have e1 : wr.cell? ⟨b, off + i * 3 + 1, none⟩ = some (.int .i64 a1) := hc 1 (by omega)
    have e2 : wr.cell? ⟨b, off + i * 3 + 2, none⟩ = some (.int .i64 a2) := hc 2 (by omega)
    clear hc hc0 hA1 hbl
    have i1 : (i : Int) < (P.length : Int) := by omega
    obtain ⟨fn, tmps, assign, body, hy, hR⟩ := HY.out _ pre (i, (a0, a1, a2)) wr HJ.out ⟨by rw [hpl.out]; exact hpm.out, by rw [hpl.out]; exact hik, hx⟩
    simp only [chgC] at hy
    have HX := Lib.hid hx; clear hx hm
    have hpx : P.length ≤ 9223372036854775807 := by omega
    gi_wp2
    refine hR.mono ?_
    rintro e W3 ⟨rfl, hJ3, _⟩
    gi_wp2
    go_roundw
    case rel =>
     refine ⟨k + 1, _, pre ++ [(i, (a0, a1, a2))], by omega, ?_, by go_num, ?_, ?_, hJ3⟩
     · omega
     · show _ = _
       rw [List.length_append, hpl.out]; rfl
     · show _ = _
       rw [List.map_append, hpm.out, List.take_add_one, List.getElem?_reverse (by omega), show P.length - 1 - k = i by omega, HX.out]
       rfl
    case measure => simp [intOf]
  · obtain rfl : k = P.length := by omega
    obtain rfl : m = -1 := by omega
    gi_wp2
    go_end0
    exact ⟨⟨_, rfl⟩, W.heap.size, Nat.le_refl _, .inl ⟨pre, by rw [hpm.out, List.take_of_length_le (by simp)], HJ.out⟩⟩
end Go.Proofs.YtahhdjeclbagnaaGreatDoor
