/-
  Init
-/
import Derived.Test.YtaielhafpmjkaaaGreatDoorQ27
namespace Go.Proofs.YtaielhafpmjkaaaGreatDoor
open Go.RowKit Go.Shelf
attribute [local go_sem] stillB stillUpon makesUpon
theorem RowAt.below' {w w' : World} {e : TypeId} {size n g : Nat} {v : Value} {xs : List Value} (h : RowAt w e size v n xs (some g)) (hb : Below w.heap.size w w') : RowAt w' e size v n xs (some g) :=
 h.keep (Upd.of_below hb) (fun k hk hle => by have := h.lt hk; omega)
def cloneSpec (W0 : World) (l : List Int) : MSpec :=
 ⟨fun v => ∃ b c, W0.heap.size ≤ b ∧ v = .slice (some ⟨b, 0, none⟩) l.length c, fun v z => ∀ b c, v = .slice (some ⟨b, 0, none⟩) l.length c → RowAt z 3 1 v l.length (ints l) (some b)⟩
theorem cloneSpec_keeps (W0 : World) (l : List Int) : (cloneSpec W0 l).Keeps := fun _ _ _ h hb b c hv => (h b c hv).below' hb
theorem clone_any {W0 : World} (z : Bl W0) {A : Option Addr} {c : Nat} {l : List Int} (h : At z.val 1 A l.length c (ints l)) (h0 : 0 < l.length) (hl : l.length * 8 ≤ 140737488355328) :
 Calls Tryz.prog 74 #[.slice A l.length c] z.val (fun e w'' => ∃ v, e = .returned v ∧ (cloneSpec W0 l).V v ∧ (cloneSpec W0 l).S v w'' ∧ Below z.val.heap.size z.val w'') := by
 obtain ⟨b, off, rfl, hc⟩ := h.cellsI h0
 refine (Any.slices_Clone_int Tryz.laysClone b off l.length c l z.val (Nat.le_refl _) hl hc).mono ?_
 rintro e w' ⟨v', rfl, hown, hnn, hb⟩
 rw [List.take_length] at hown
 rcases hown.2 with ⟨h1, _⟩ | ⟨g, cap, cur, rfl, h2, h3, h4, h5, h6, h7⟩
 · exact absurd h1 hnn
 · refine ⟨_, rfl, ⟨g, cap, Nat.le_trans z.prop.size h2, rfl⟩, ?_, hb⟩
   intro b' c' hv
   simp only [Value.slice.injEq, Option.some.injEq, Addr.mk.injEq, and_true, true_and] at hv
   obtain ⟨rfl, rfl⟩ := hv
   exact ⟨hown.1, .inr ⟨g, 0, cap, cur, rfl, rfl, h3, h4, h5, by omega, by simpa [ints] using h7⟩⟩
def marksTo (C : KCon) (k : Nat) : List KMark := (C.clauses.take k).map firstMark ++ List.replicate (C.clauses.length - k) zeroMark
theorem marksTo_len (C : KCon) (k : Nat) (hk : k ≤ C.clauses.length) : (marksTo C k).length = C.clauses.length := by simp [marksTo]; omega
theorem marksTo_zero (C : KCon) : marksTo C 0 = List.replicate C.clauses.length zeroMark := by simp [marksTo]
theorem marksTo_all (C : KCon) : marksTo C C.clauses.length = C.clauses.map firstMark := by simp [marksTo]
theorem marksTo_get {C : KCon} {k : Nat} (hk : k < C.clauses.length) : (marksTo C k)[k]? = some zeroMark := by
 rw [marksTo, List.getElem?_append_right (by simp; omega), List.getElem?_replicate, if_pos (by simp; omega)]
theorem marksTo_succ {C : KCon} {k : Nat} {c : KClause} (hc : C.clauses[k]? = some c) : marksTo C (k + 1) = (marksTo C k).set k (firstMark c) := by
 have hk : k < C.clauses.length := (List.getElem?_eq_some_iff.1 hc).1
 apply List.ext_getElem?
 intro j
 rw [List.getElem?_set]
 by_cases hj : k = j
 · subst hj
   rw [if_pos rfl, if_pos (by rw [marksTo_len C k (by omega)]; exact hk), marksTo, List.getElem?_append_left (by simp; omega), List.getElem?_map, List.getElem?_take, if_pos (by omega), hc]
   rfl
 · rw [if_neg hj]
   unfold marksTo
   by_cases h2 : j < k
   · rw [List.getElem?_append_left (by simp; omega), List.getElem?_append_left (by simp; omega), List.getElem?_map, List.getElem?_map, List.getElem?_take, List.getElem?_take, if_pos (by omega), if_pos h2]
   · rw [List.getElem?_append_right (by simp; omega), List.getElem?_append_right (by simp; omega), List.getElem?_replicate, List.getElem?_replicate]
     simp only [List.length_map, List.length_take]
     rw [Nat.min_eq_left (by omega), Nat.min_eq_left (by omega)]
     by_cases h3 : j < C.clauses.length
     · rw [if_pos (by omega), if_pos (by omega)]
     · rw [if_neg (by omega), if_neg (by omega)]
theorem errno_valid {C : KCon} (h : C.valid = true) : C.errno = 0 := by
 simp only [KCon.valid, Bool.and_eq_true, Bool.not_eq_true'] at h
 simp [KCon.errno, h.1, h.2.1, h.2.2]
theorem errno_bad {C : KCon} (h : C.valid = false) : (C.errno != 0) = true := by
 unfold KCon.valid at h
 unfold KCon.errno
 cases ho : C.over with
 | true => rfl
 | false =>
  rw [ho] at h
  simp only [Bool.not_false, Bool.true_and] at h
  rw [h]
  rfl
set_option maxRecDepth 100000 in
set_option maxHeartbeats 4000000 in
theorem begin_any (v : CV) (C : KCon) (w : World) (hC : ConAt w v C) : Calls Tryz.prog 51 #[v.val C] w (StatePost (cond C.valid 0 1) C.first w) := by
 obtain ⟨⟨vhA, vhc⟩, ⟨vuA, vuc⟩, ⟨vaA, vac⟩, ⟨vkA, vkc⟩, ⟨voA, voc⟩⟩ := v
 have HC := Lib.hid hC; clear hC
 simp only [CV.val, CV.cells]
 go_enter Tryz.func51, Tryz.ntmps51
 go_upto_region 1 with (fail)
 generalize hW0 : World.alloc _ _ = W0
 obtain ⟨HB, hh0, hh1⟩ := bx2 hW0
 clear hW0
 obtain ⟨k0_0, k0_1, k0_2, k0_3, k0_4, k0_5, k0_6⟩ := kc7 hh0
 clear hh0
 obtain ⟨k1_0, k1_1, k1_2, k1_3⟩ := kc4 hh1
 have f1_0 := fcell (i := 0) hh1
 have f1_1 := fcell (i := 1) hh1
 have f1_2 := fcell (i := 2) hh1
 have f1_3 := fcell (i := 3) hh1
 have hl1 := lt_of_heap hh1
 clear hh1
 change Code.wp _ _ _ _ (Bl.val (⟨W0, Below.refl _ _⟩ : Bl W0))
 generalize (⟨W0, Below.refl _ _⟩ : Bl W0) = s0
 have hcv : ∀ z : Bl W0, Calls Tryz.prog 44 #[.agg #[.int .i64 C.parties, .slice vhA C.holders.length vhc, .slice vuA C.units.length vuc, .slice vaA C.acts.length vac, .slice vkA C.clauses.length vkc, .int .i64 C.days, .slice voA C.off.length voc]] z.val (ConPost C.errno z.val) := fun z => conValid_any (⟨⟨vhA, vhc⟩, ⟨vuA, vuc⟩, ⟨vaA, vac⟩, ⟨vkA, vkc⟩, ⟨voA, voc⟩⟩ : CV) C z.val (HC.out.below (Below.step HB.out z.prop))
 cases q1 : C.valid with
 | false =>
  have hne := errno_bad q1
  generalize C.errno = en at hcv hne
  have HCV := Lib.hid hcv; clear hcv
  go_wp2_with (first | (go_at_call 44; refine (HCV.out _).mono ?_; rintro e z ⟨nn, rfl, hz⟩; obtain ⟨z, rfl⟩ := Bl.on hz; clear hz))
  obtain ⟨Wf, HWf⟩ : ∃ Wf, Hid (Wf = (((z.val.setCell ⟨w.heap.size + 1, 0, none⟩ (.int .i64 0)).setCell ⟨w.heap.size + 1, 1, none⟩ (.slice none 0 0)).setCell ⟨w.heap.size + 1, 2, none⟩ (.slice none 0 0)).setCell ⟨w.heap.size + 1, 3, none⟩ (.slice none 0 0)) := ⟨_, rfl⟩
  rw [← HWf.out]
  obtain ⟨d0, d1, d2, d3, hUf⟩ := stored4 (k1_0 _) (k1_1 _) (k1_2 _) (k1_3 _) HWf.out
  refine bodyPost_ret (v := .tuple #[.agg #[.int .i64 0, .slice none 0 0, .slice none 0 0, .slice none 0 0], .int .i64 1]) (by simp [results, Tryz.results51, go_sem, d0, d1, d2, d3]) rfl ⟨?_, .inr ⟨by rw [q1]; decide, by rw [q1]; rfl⟩⟩
  exact (Below.step HB.out z.prop).trans (hUf.below (by have h1 := HB.out.size; have h2 := z.prop.size; omega) (fun k hk => by omega))
 | true =>
  rw [errno_valid q1] at hcv
  have HCV := Lib.hid hcv; clear hcv
  have hO := KCon.ok q1
  have hlh := hO.nroles
  have hlh0 := hO.roles
  have hlu := hO.nacts
  have hlm := hO.nclauses
  have HN := Lib.hid (first_ok q1).needs
  have HO := Lib.hid hO; clear hO
  go_wp2_with (first | (go_at_call 44; refine (HCV.out _).mono ?_; rintro e z ⟨nn, rfl, hz⟩; obtain ⟨z, rfl⟩ := Bl.on hz; clear hz))
  have hp1 := z.prop
  have c0_0 := k0_0 z
  have c0_1 := k0_1 z
  have c0_2 := k0_2 z
  have c0_3 := k0_3 z
  have c0_4 := k0_4 z
  have c0_5 := k0_5 z
  have c0_6 := k0_6 z
  have c1_0 := k1_0 z
  have c1_1 := k1_1 z
  have c1_2 := k1_2 z
  have c1_3 := k1_3 z
  have e0 := f1_0 z
  have e1 := f1_1 z
  have e2 := f1_2 z
  have e3 := f1_3 z
  generalize z.val = W1 at hp1 c0_0 c0_1 c0_2 c0_3 c0_4 c0_5 c0_6 c1_0 c1_1 c1_2 c1_3 e0 e1 e2 e3 ⊢
  clear k0_0 k0_1 k0_2 k0_3 k0_4 k0_5 k0_6 k1_0 k1_1 k1_2 k1_3 f1_0 f1_1 f1_2 f1_3 HCV
  have HP1 : Hid (Below w.heap.size w W1) := Below.step HB.out hp1
  have hs1 := hp1.size
  have HC1 := Lib.hid (HC.out.below HP1.out)
  have b0_0 : ∀ y : Bl W1, y.val.cell? ⟨w.heap.size, 0, none⟩ = some (.int .i64 C.parties) := fun y => y.cell c0_0
  have b0_1 : ∀ y : Bl W1, y.val.cell? ⟨w.heap.size, 1, none⟩ = some (.slice vhA C.holders.length vhc) := fun y => y.cell c0_1
  have b0_2 : ∀ y : Bl W1, y.val.cell? ⟨w.heap.size, 2, none⟩ = some (.slice vuA C.units.length vuc) := fun y => y.cell c0_2
  have b0_3 : ∀ y : Bl W1, y.val.cell? ⟨w.heap.size, 3, none⟩ = some (.slice vaA C.acts.length vac) := fun y => y.cell c0_3
  have b0_4 : ∀ y : Bl W1, y.val.cell? ⟨w.heap.size, 4, none⟩ = some (.slice vkA C.clauses.length vkc) := fun y => y.cell c0_4
  have b0_5 : ∀ y : Bl W1, y.val.cell? ⟨w.heap.size, 5, none⟩ = some (.int .i64 C.days) := fun y => y.cell c0_5
  have b0_6 : ∀ y : Bl W1, y.val.cell? ⟨w.heap.size, 6, none⟩ = some (.slice voA C.off.length voc) := fun y => y.cell c0_6
  obtain ⟨ib, hbi, hbz, hbs, hbb⟩ := info_parts' (P := Tryz.prog) (t := 4) (z := some (.bool false)) (s := 1) (b := 1) (by kernel_rfl)
  obtain ⟨im, hmi, hmz, hms, hmb⟩ := info_parts' (P := Tryz.prog) (t := 57) (z := some (.agg zeroMark.cells.toArray)) (s := 5) (b := 40) (by kernel_rfl)
  have HCL : Hid (∀ z : Bl W1, Calls Tryz.prog 74 #[.slice vhA C.holders.length vhc] z.val (fun e w'' => ∃ v, e = .returned v ∧ (cloneSpec W1 C.holders).V v ∧ (cloneSpec W1 C.holders).S v w'' ∧ Below z.val.heap.size z.val w'')) := fun z =>
   clone_any z (HC1.out.below z.prop).holders (by omega) (by omega)
  refine wp_region_make (s := (⟨W1, Below.refl _ _⟩ : Bl W1)) 14 (fun i => match i with
   | 3 => some (cloneSpec W1 C.holders)
   | 7 => some (rowSpec W1 4 C.acts.length (madeCells (Value.cells (.bool false)) (C.acts.length * 1)))
   | 11 => some (rowSpec W1 57 C.clauses.length (madeCells (Value.cells (.agg zeroMark.cells.toArray)) (C.clauses.length * 5)))
   | _ => none) (by simp) (by kernel_rfl) (by kernel_rfl) ?keeps ?_
  case keeps =>
   intro i sp h
   split at h
   · injection h with h; subst h; exact cloneSpec_keeps _ _
   · injection h with h; subst h; exact rowSpec_keeps _ _ _ _
   · injection h with h; subst h; exact rowSpec_keeps _ _ _ _
   · cases h
  simp only [List.take_succ_cons, List.take_zero, List.drop_succ_cons, List.drop_zero]
  repeat (refine wpG_still rfl (fun K hK => ?_); go_simp; refine hK _ ?_; clear hK K)
  refine wpG_make _ rfl rfl (fun z => ?_) ?_
  · go_simp
    exact HCL.out z
  rintro _ ⟨gh, hcp, hgh, rfl⟩
  repeat (refine wpG_still rfl (fun K hK => ?_); go_simp; refine hK _ ?_; clear hK K)
  refine wpG_make _ rfl rfl (makes_row 40 (.tmp 23) (.tmp 23) rfl 4 ib (.bool false) 1 Tryz.underlying40 hbi hbz hbs C.acts.length rfl rfl (by rw [hbb]; omega) (by omega)) ?_
  rintro _ ⟨gu, hgu, rfl⟩
  repeat (refine wpG_still rfl (fun K hK => ?_); go_simp; refine hK _ ?_; clear hK K)
  refine wpG_make _ rfl rfl (makes_row 41 (.tmp 27) (.tmp 27) rfl 57 im (.agg zeroMark.cells.toArray) 5 Tryz.underlying41 hmi hmz hms C.clauses.length rfl rfl (by rw [hmb]; omega) (by omega)) ?_
  rintro _ ⟨gm, hgm, rfl⟩
  repeat (refine wpG_still rfl (fun K hK => ?_); go_simp; refine hK _ ?_; clear hK K)
  refine wpG_nil ?_
  rintro z2 ⟨⟨⟨_, hA⟩, hB⟩, hD⟩
  have hh := hA gh hcp rfl
  have hu := hB gu rfl
  have hm := hD gm rfl
  clear hA hB hD HCL
  gi_wp2
  obtain ⟨W5, HW5⟩ : ∃ W5, Hid (W5 = z2.val.alloc (.cells #[.int .i64 C.parties, .slice vhA C.holders.length vhc, .slice vuA C.units.length vuc, .slice vaA C.acts.length vac, .slice vkA C.clauses.length vkc, .int .i64 C.days, .slice voA C.off.length voc, .int .i64 0, .slice (some ⟨gh, 0, none⟩) C.holders.length hcp, .slice (some ⟨gu, 0, none⟩) C.acts.length C.acts.length, .slice (some ⟨gm, 0, none⟩) C.clauses.length C.clauses.length] 84)) := ⟨_, rfl⟩
  rw [← HW5.out]
  obtain ⟨g, hg⟩ : ∃ g, g = z2.val.heap.size := ⟨_, rfl⟩
  rw [← hg]
  have HB5 : Hid (Below W1.heap.size W1 W5) := by show Below _ _ _; rw [HW5.out]; exact Below.alloc' z2.prop _
  have hW5 : WorkAt W1 W5 g (⟨⟨vhA, vhc⟩, ⟨vuA, vuc⟩, ⟨vaA, vac⟩, ⟨vkA, vkc⟩, ⟨voA, voc⟩⟩ : CV) C (⟨⟨some ⟨gh, 0, none⟩, hcp⟩, ⟨some ⟨gu, 0, none⟩, C.acts.length⟩, ⟨some ⟨gm, 0, none⟩, C.clauses.length⟩⟩ : TV) ⟨0, C.holders, List.replicate C.acts.length false, List.replicate C.clauses.length zeroMark⟩ gh gu gm := by
   refine ⟨?_, HC1.out, HB5.out, ?_, ?_, ?_, by rw [hg]; exact z2.prop.size, hgh, hgu, hgm⟩
   · rw [HW5.out, hg]
     simp only [List.length_replicate]
     exact heap_alloc_new z2.val _
   · rw [HW5.out]
     exact hh.below' (Below.alloc' (Below.refl _ _) _)
   · have h : W5.heap[gu]? = some (.cells (madeCells (Value.cells (.bool false)) (C.acts.length * 1)) 4 (0, 0)) := by rw [HW5.out]; exact (Below.heap_alloc _ _ _ (lt_of_heap hu)).trans hu
     have h2 := RowAt.of_block (size := 1) (n := C.acts.length) h (size_madeCells _ _) (by unfold maxLen; omega)
     rw [made_bools] at h2
     simpa only [List.length_replicate] using h2
   · have h : W5.heap[gm]? = some (.cells (madeCells (Value.cells (.agg zeroMark.cells.toArray)) (C.clauses.length * 5)) 57 (0, 0)) := by rw [HW5.out]; exact (Below.heap_alloc _ _ _ (lt_of_heap hm)).trans hm
     have h2 := RowAt.of_block (size := 5) (n := C.clauses.length) h (size_madeCells _ _) (by unfold maxLen; omega)
     rw [show (Value.cells (.agg zeroMark.cells.toArray)) = zeroMark.cells.toArray from rfl, made_marks] at h2
     simpa only [List.length_replicate] using h2
  have i4 := ((bcell HB5.out).1 (w.heap.size) 4 (by omega)).trans c0_4
  have HH5 := Lib.hid hW5; clear hW5 hh hu hm HW5 HB5 b0_0 b0_1 b0_2 b0_3 b0_4 b0_5 b0_6
  have HG := Lib.hid hg; clear hg
  go_wp2
  go_loopw [35] (fun i wr => ∃ j : Nat, j ≤ C.clauses.length ∧ i = .int .i64 j ∧ Hid (WorkAt W1 wr g (⟨⟨vhA, vhc⟩, ⟨vuA, vuc⟩, ⟨vaA, vac⟩, ⟨vkA, vkc⟩, ⟨voA, voc⟩⟩ : CV) C (⟨⟨some ⟨gh, 0, none⟩, hcp⟩, ⟨some ⟨gu, 0, none⟩, C.acts.length⟩, ⟨some ⟨gm, 0, none⟩, C.clauses.length⟩⟩ : TV) ⟨0, C.holders, List.replicate C.acts.length false, marksTo C j⟩ gh gu gm)) (fun i _ => C.clauses.length - (intOf i).toNat)
  case atStart => exact ⟨0, Nat.zero_le _, rfl, by show WorkAt _ _ _ _ _ _ _ _ _ _; rw [marksTo_zero]; exact HH5.out⟩
  case round =>
   obtain ⟨j, hj, rfl, HW⟩ := hrel
   clear i4
   by_cases hlt : j < C.clauses.length
   · obtain ⟨k, hk⟩ : ∃ k, C.clauses[j]? = some k := ⟨_, List.getElem?_eq_getElem hlt⟩
     obtain ⟨kb, koff, st, hK, hkb, hkc, _⟩ := HW.out.con.clause hk
     simp only at hK
     subst hK
     have hkc2 := hkc _ HW.out.below
     obtain ⟨k0, ro2, ac, ne, start, af, gr, bu, fi, pa, re, ⟨vn, vd⟩, un2, tg2, wa⟩ := k
     obtain ⟨stA, stc⟩ := st
     obtain ⟨x0, x1, x2, x3, x4, x5, x6, x7, x8, x9, x10, x11, x12, x13, x14, x15⟩ := rw16 hkc2 rfl
     clear hkc hkc2
     have HK := Lib.hid hk; clear hk
     have j0 : (0 : Int) ≤ (j : Int) := by omega
     have j1 : (j : Int) < (C.clauses.length : Int) := by omega
     have j2 : C.clauses.length ≤ 9223372036854775807 := by omega
     go_upto_region 8 with (fail)
     obtain ⟨Wa, HWa⟩ : ∃ Wa, Hid (Wa = wr.alloc (.cells #[.int .i64 k0, .int .i64 ro2, .int .i64 ac, .int .i64 ne, .slice stA start.length stc, .int .i64 af, .int .i64 gr, .bool bu, .bool fi, .int .i64 pa, .int .i64 re, .int .i64 vn, .int .i64 vd, .int .i64 un2, .int .i64 tg2, .bool wa] 90)) := ⟨_, rfl⟩
     rw [← HWa.out]
     have hb : Below wr.heap.size wr Wa := by rw [HWa.out]; exact Below.alloc' (Below.refl _ _) _
     have hWa : WorkAt W1 Wa g (⟨⟨vhA, vhc⟩, ⟨vuA, vuc⟩, ⟨vaA, vac⟩, ⟨some ⟨kb, koff, none⟩, vkc⟩, ⟨voA, voc⟩⟩ : CV) C (⟨⟨some ⟨gh, 0, none⟩, hcp⟩, ⟨some ⟨gu, 0, none⟩, C.acts.length⟩, ⟨some ⟨gm, 0, none⟩, C.clauses.length⟩⟩ : TV) ⟨0, C.holders, List.replicate C.acts.length false, marksTo C j⟩ gh gu gm := HW.out.on hb
     have y15 : Wa.cell? ⟨wr.heap.size, 15, none⟩ = some (.bool wa) := by
      have h := heap_alloc_new wr (.cells #[.int .i64 k0, .int .i64 ro2, .int .i64 ac, .int .i64 ne, .slice stA start.length stc, .int .i64 af, .int .i64 gr, .bool bu, .bool fi, .int .i64 pa, .int .i64 re, .int .i64 vn, .int .i64 vd, .int .i64 un2, .int .i64 tg2, .bool wa] 90)
      rw [← HWa.out] at h
      exact (cell_of_row Wa _ 15 _ _ _ h).trans rfl
     have y10 : Wa.cell? ⟨g, 10, none⟩ = some (.slice (some ⟨gm, 0, none⟩) C.clauses.length C.clauses.length) := by
      have h := hWa.cell 10
      simp only [marksTo_len C j hj] at h
      exact h
     obtain ⟨moff', hmA', hgl', hcell', hfz'⟩ := hWa.markAt (marksTo_get hlt)
     simp only [Option.some.injEq, Addr.mk.injEq, true_and, and_true] at hmA'
     subst hmA'
     simp only [Nat.zero_add] at hcell' hfz'
     obtain ⟨m0, m1, m2, m3, m4⟩ := rw5 hcell' rfl
     have z0 := hfz' (j * 5)
     have z1 := hfz' (j * 5 + 1)
     have z2 := hfz' (j * 5 + 2)
     have z3 := hfz' (j * 5 + 3)
     have z4 := hfz' (j * 5 + 4)
     have hne : g ≠ gm := hWa.gm_ne
     have hne2 : wr.heap.size ≠ gm := by have := HW.out.marks.lt rfl; omega
     clear hcell' hfz' x0 x1 x2 x3 x4 x5 x6 x7 x8 x9 x10 x11 x12 x13 x14 x15
     have hset := hWa.markSet (marksTo_get hlt) 0 0 0 (-1) false
     simp only [Nat.zero_add] at hset
     have HWS := Lib.hid hset; clear hset hWa
     have HSU := Lib.hid (marksTo_succ HK.out)
     have HGT : Hid ((List.set (marksTo C j) j ⟨0, 0, 0, -1, false⟩)[j]? = some ⟨0, 0, 0, -1, false⟩) := set_self' (marksTo_get hlt) _
     clear hb hkb hgl'
     cases wa with
     | false =>
      go_wp2
      go_roundw
      case rel => exact ⟨j + 1, by omega, by go_num, by
       show WorkAt _ _ _ _ _ _ _ _ _ _
       rw [HSU.out]
       exact HWS.out⟩
      case measure => simp [intOf]; omega
     | true =>
      go_wp2
      go_roundw
      case rel => exact ⟨j + 1, by omega, by go_num, by
       show WorkAt _ _ _ _ _ _ _ _ _ _
       rw [HSU.out]
       have h := HWS.out.markCell (i := j) (j := 0) (u := .int .i64 5) (m' := ⟨5, 0, 0, -1, false⟩) HGT.out (by omega) rfl
       simp only [Nat.zero_add, Nat.add_zero, List.set_set] at h
       exact h⟩
      case measure => simp [intOf]; omega
   · obtain rfl : j = C.clauses.length := by omega
     have HST := Lib.hid (start_any HW.out (marksTo_len C _ (Nat.le_refl _)) HN.out.hin HN.out.hro)
     go_wp2_with (go_at_call 69; refine HST.out.mono ?_; rintro e zc ⟨rfl, hz1, hz2⟩; refine Hid.out ?_)
     refine Lib.hid ?_
     generalize hs2 : KState.mk 0 C.holders (List.replicate C.acts.length false) (C.begin C.holders (marksTo C C.clauses.length)) = s2 at hz1
     have HS2 := Lib.hid hs2; clear hs2
     have n7 : zc.cell? ⟨g, 7, none⟩ = some (.int .i64 s2.day) := hz1.cell 7
     have n8 : zc.cell? ⟨g, 8, none⟩ = some (.slice (some ⟨gh, 0, none⟩) s2.holders.length hcp) := hz1.cell 8
     have n9 : zc.cell? ⟨g, 9, none⟩ = some (.slice (some ⟨gu, 0, none⟩) s2.used.length C.acts.length) := hz1.cell 9
     have n10 : zc.cell? ⟨g, 10, none⟩ = some (.slice (some ⟨gm, 0, none⟩) s2.marks.length C.clauses.length) := hz1.cell 10
     have t0 := ((bcell hz1.below).1 (w.heap.size + 1) 0 (by omega)).trans c1_0
     have u0 := ((bcell hz1.below).2 (w.heap.size + 1) 0 (by omega)).trans e0
     have t1 := ((bcell hz1.below).1 (w.heap.size + 1) 1 (by omega)).trans c1_1
     have u1 := ((bcell hz1.below).2 (w.heap.size + 1) 1 (by omega)).trans e1
     have t2 := ((bcell hz1.below).1 (w.heap.size + 1) 2 (by omega)).trans c1_2
     have u2 := ((bcell hz1.below).2 (w.heap.size + 1) 2 (by omega)).trans e2
     have t3 := ((bcell hz1.below).1 (w.heap.size + 1) 3 (by omega)).trans c1_3
     have u3 := ((bcell hz1.below).2 (w.heap.size + 1) 3 (by omega)).trans e3
     have HZ := Lib.hid hz1; clear hz1
     go_wp2
     obtain ⟨Wf, HWf⟩ : ∃ Wf, Hid (Wf = (((zc.setCell ⟨w.heap.size + 1, 0, none⟩ (.int .i64 s2.day)).setCell ⟨w.heap.size + 1, 1, none⟩ (.slice (some ⟨gh, 0, none⟩) s2.holders.length hcp)).setCell ⟨w.heap.size + 1, 2, none⟩ (.slice (some ⟨gu, 0, none⟩) s2.used.length C.acts.length)).setCell ⟨w.heap.size + 1, 3, none⟩ (.slice (some ⟨gm, 0, none⟩) s2.marks.length C.clauses.length)) := ⟨_, rfl⟩
     rw [← HWf.out]
     obtain ⟨d0, d1, d2, d3, hUf⟩ := stored4 t0 t1 t2 t3 HWf.out
     refine bodyPost_ret (v := .tuple #[.agg #[.int .i64 s2.day, .slice (some ⟨gh, 0, none⟩) s2.holders.length hcp, .slice (some ⟨gu, 0, none⟩) s2.used.length C.acts.length, .slice (some ⟨gm, 0, none⟩) s2.marks.length C.clauses.length], .int .i64 0]) (by simp [results, Tryz.results51, go_sem, d0, d1, d2, d3]) rfl ⟨?_, .inl ⟨by rw [q1]; rfl, (⟨⟨some ⟨gh, 0, none⟩, hcp⟩, ⟨some ⟨gu, 0, none⟩, C.acts.length⟩, ⟨some ⟨gm, 0, none⟩, C.clauses.length⟩⟩ : TV), ?_, ?_, newSV_mk (Nat.le_trans HP1.out.size HZ.out.newH), newSV_mk (Nat.le_trans HP1.out.size HZ.out.newU), newSV_mk (Nat.le_trans HP1.out.size HZ.out.newM)⟩⟩
     · exact (HP1.out.trans (HZ.out.below.mono HP1.out.size)).trans (hUf.below (by have h1 := HP1.out.size; have h2 := HZ.out.below.size; omega) (fun k hk => by omega))
     · rw [show C.first = s2 by rw [← HS2.out, marksTo_all]; rfl]
       rfl
     · rw [show C.first = s2 by rw [← HS2.out, marksTo_all]; rfl]
       exact HZ.out.stateOn hUf (fun k hk => by omega)
end Go.Proofs.YtaielhafpmjkaaaGreatDoor
