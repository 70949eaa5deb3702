/-
  Step
-/
import Derived.Test.YtaielhafpmjkaaaGreatDoorQ19
import Derived.Test.YtaielhafpmjkaaaGreatDoorQ26
namespace Go.Proofs.YtaielhafpmjkaaaGreatDoor
open Go.RowKit
attribute [local go_sem] stillB stillUpon
def KCon.stepErr (C : KCon) (s : KState) (x : Int) : Int := cond (!(C.okState s)) 1 (cond (decide (x < -1)) 1 (cond (decide ((C.acts.length : Int) ≤ x)) 1 (cond (s.day == C.days) 13 0)))
def KCon.next (C : KCon) (s : KState) (x : Int) : KState := cond (x == -1) (C.tick s) (match C.acts[x.toNat]? with | some a => C.act x.toNat a s | none => s)
def zeroState : Value := .agg #[.int .i64 0, .slice none 0 0, .slice none 0 0, .slice none 0 0]
def StatePost (er : Int) (s : KState) (w : World) (e : Ending) (w' : World) : Prop :=
 Below w.heap.size w w' ∧ ((er = 0 ∧ ∃ t : TV, e = .returned (.tuple #[t.val s, .int .i64 0]) ∧ StateAt w' t s ∧ NewT w.heap.size t) ∨ (er ≠ 0 ∧ e = .returned (.tuple #[zeroState, .int .i64 er])))
set_option maxRecDepth 100000 in
set_option maxHeartbeats 4000000 in
theorem step_any (v : CV) (C : KCon) (tv : TV) (s : KState) (x : Int) (w : World) (hC : ConAt w v C) (hS : StateAt w tv s) : Calls Tryz.prog 21 #[v.val C, tv.val s, .int .i64 x] w (StatePost (C.stepErr s x) (C.next s x) w) := by
 obtain ⟨⟨vhA, vhc⟩, ⟨vuA, vuc⟩, ⟨vaA, vac⟩, ⟨vkA, vkc⟩, ⟨voA, voc⟩⟩ := v
 obtain ⟨⟨thA, thc⟩, ⟨tuA, tuc⟩, ⟨tmA, tmc⟩⟩ := tv
 have hax : C.acts.length ≤ 9223372036854775807 := by have h1 := hC.acts.2.2.1; have h2 := hC.acts.2.2.2; unfold maxLen at h2; omega
 have HC := Lib.hid hC; clear hC
 have HS := Lib.hid hS; clear hS
 simp only [CV.val, CV.cells, TV.val, TV.cells, KState.cells]
 go_enter Tryz.func21, Tryz.ntmps21
 go_upto_region 1 with (fail)
 generalize hW0 : World.alloc _ _ = W0
 obtain ⟨HB, hh0, hh1, hh2⟩ := bx3 hW0
 clear hW0
 obtain ⟨k0_0, k0_1, k0_2, k0_3, k0_4, k0_5, k0_6⟩ := kc7 hh0
 clear hh0
 obtain ⟨k1_0, k1_1, k1_2, k1_3⟩ := kc4 hh1
 clear hh1
 obtain ⟨k2_0, k2_1, k2_2, k2_3⟩ := kc4 hh2
 have f2_0 := fcell (i := 0) hh2
 have f2_1 := fcell (i := 1) hh2
 have f2_2 := fcell (i := 2) hh2
 have f2_3 := fcell (i := 3) hh2
 have hl2 := lt_of_heap hh2
 clear hh2
 change Code.wp _ _ _ _ (Bl.val (⟨W0, Below.refl _ _⟩ : Bl W0))
 generalize (⟨W0, Below.refl _ _⟩ : Bl W0) = s0
 have hsv : ∀ z : Bl W0, Calls Tryz.prog 19 #[.agg #[.int .i64 C.parties, .slice vhA C.holders.length vhc, .slice vuA C.units.length vuc, .slice vaA C.acts.length vac, .slice vkA C.clauses.length vkc, .int .i64 C.days, .slice voA C.off.length voc], .agg #[.int .i64 s.day, .slice thA s.holders.length thc, .slice tuA s.used.length tuc, .slice tmA s.marks.length tmc]] z.val (RetB (.bool (C.okState s)) z.val) := fun z => stateValid_any (⟨⟨vhA, vhc⟩, ⟨vuA, vuc⟩, ⟨vaA, vac⟩, ⟨vkA, vkc⟩, ⟨voA, voc⟩⟩ : CV) C (⟨⟨thA, thc⟩, ⟨tuA, tuc⟩, ⟨tmA, tmc⟩⟩ : TV) s z.val (HC.out.below (Below.step HB.out z.prop)) (HS.out.below (Below.step HB.out z.prop))
 cases q1 : C.okState s with
 | false =>
  rw [q1] at hsv
  have HSV := Lib.hid hsv; clear hsv
  go_wp2_with (first | (go_at_call 19; refine (HSV.out _).mono ?_; rintro e z ⟨rfl, hz⟩; obtain ⟨z, rfl⟩ := Bl.on hz; clear hz))
  obtain ⟨Wf, HWf⟩ : ∃ Wf, Hid (Wf = (((z.val.setCell ⟨w.heap.size + 1 + 1, 0, none⟩ (.int .i64 0)).setCell ⟨w.heap.size + 1 + 1, 1, none⟩ (.slice none 0 0)).setCell ⟨w.heap.size + 1 + 1, 2, none⟩ (.slice none 0 0)).setCell ⟨w.heap.size + 1 + 1, 3, none⟩ (.slice none 0 0)) := ⟨_, rfl⟩
  rw [← HWf.out]
  obtain ⟨d0, d1, d2, d3, hUf⟩ := stored4 (k2_0 _) (k2_1 _) (k2_2 _) (k2_3 _) HWf.out
  refine bodyPost_ret (v := .tuple #[.agg #[.int .i64 0, .slice none 0 0, .slice none 0 0, .slice none 0 0], .int .i64 1]) (by simp [results, Tryz.results21, go_sem, d0, d1, d2, d3]) rfl ⟨?_, .inr ⟨by simp [KCon.stepErr, q1], by simp [KCon.stepErr, q1, zeroState]⟩⟩
  exact (Below.step HB.out z.prop).trans (hUf.below (by have h1 := HB.out.size; have h2 := z.prop.size; omega) (fun k hk => by omega))
 | true =>
  rw [q1] at hsv
  have HSV := Lib.hid hsv; clear hsv
  cases q2 : decide (x < -1) with
  | true =>
   go_wp2_with (first | (go_at_call 19; refine (HSV.out _).mono ?_; rintro e z ⟨rfl, hz⟩; obtain ⟨z, rfl⟩ := Bl.on hz; clear hz))
   obtain ⟨Wf, HWf⟩ : ∃ Wf, Hid (Wf = (((z.val.setCell ⟨w.heap.size + 1 + 1, 0, none⟩ (.int .i64 0)).setCell ⟨w.heap.size + 1 + 1, 1, none⟩ (.slice none 0 0)).setCell ⟨w.heap.size + 1 + 1, 2, none⟩ (.slice none 0 0)).setCell ⟨w.heap.size + 1 + 1, 3, none⟩ (.slice none 0 0)) := ⟨_, rfl⟩
   rw [← HWf.out]
   obtain ⟨d0, d1, d2, d3, hUf⟩ := stored4 (k2_0 _) (k2_1 _) (k2_2 _) (k2_3 _) HWf.out
   refine bodyPost_ret (v := .tuple #[.agg #[.int .i64 0, .slice none 0 0, .slice none 0 0, .slice none 0 0], .int .i64 1]) (by simp [results, Tryz.results21, go_sem, d0, d1, d2, d3]) rfl ⟨?_, .inr ⟨by simp [KCon.stepErr, q1, q2], by simp [KCon.stepErr, q1, q2, zeroState]⟩⟩
   exact (Below.step HB.out z.prop).trans (hUf.below (by have h1 := HB.out.size; have h2 := z.prop.size; omega) (fun k hk => by omega))
  | false =>
   cases q3 : decide ((C.acts.length : Int) ≤ x) with
   | true =>
    go_wp2_with (first | (go_at_call 19; refine (HSV.out _).mono ?_; rintro e z ⟨rfl, hz⟩; obtain ⟨z, rfl⟩ := Bl.on hz; clear hz))
    obtain ⟨Wf, HWf⟩ : ∃ Wf, Hid (Wf = (((z.val.setCell ⟨w.heap.size + 1 + 1, 0, none⟩ (.int .i64 0)).setCell ⟨w.heap.size + 1 + 1, 1, none⟩ (.slice none 0 0)).setCell ⟨w.heap.size + 1 + 1, 2, none⟩ (.slice none 0 0)).setCell ⟨w.heap.size + 1 + 1, 3, none⟩ (.slice none 0 0)) := ⟨_, rfl⟩
    rw [← HWf.out]
    obtain ⟨d0, d1, d2, d3, hUf⟩ := stored4 (k2_0 _) (k2_1 _) (k2_2 _) (k2_3 _) HWf.out
    refine bodyPost_ret (v := .tuple #[.agg #[.int .i64 0, .slice none 0 0, .slice none 0 0, .slice none 0 0], .int .i64 1]) (by simp [results, Tryz.results21, go_sem, d0, d1, d2, d3]) rfl ⟨?_, .inr ⟨by simp [KCon.stepErr, q1, q2, q3], by simp [KCon.stepErr, q1, q2, q3, zeroState]⟩⟩
    exact (Below.step HB.out z.prop).trans (hUf.below (by have h1 := HB.out.size; have h2 := z.prop.size; omega) (fun k hk => by omega))
   | false =>
    cases q4 : (s.day == C.days) with
    | true =>
     go_wp2_with (first | (go_at_call 19; refine (HSV.out _).mono ?_; rintro e z ⟨rfl, hz⟩; obtain ⟨z, rfl⟩ := Bl.on hz; clear hz))
     obtain ⟨Wf, HWf⟩ : ∃ Wf, Hid (Wf = (((z.val.setCell ⟨w.heap.size + 1 + 1, 0, none⟩ (.int .i64 0)).setCell ⟨w.heap.size + 1 + 1, 1, none⟩ (.slice none 0 0)).setCell ⟨w.heap.size + 1 + 1, 2, none⟩ (.slice none 0 0)).setCell ⟨w.heap.size + 1 + 1, 3, none⟩ (.slice none 0 0)) := ⟨_, rfl⟩
     rw [← HWf.out]
     obtain ⟨d0, d1, d2, d3, hUf⟩ := stored4 (k2_0 _) (k2_1 _) (k2_2 _) (k2_3 _) HWf.out
     refine bodyPost_ret (v := .tuple #[.agg #[.int .i64 0, .slice none 0 0, .slice none 0 0, .slice none 0 0], .int .i64 13]) (by simp [results, Tryz.results21, go_sem, d0, d1, d2, d3]) rfl ⟨?_, .inr ⟨by simp [KCon.stepErr, q1, q2, q3, q4], by simp [KCon.stepErr, q1, q2, q3, q4, zeroState]⟩⟩
     exact (Below.step HB.out z.prop).trans (hUf.below (by have h1 := HB.out.size; have h2 := z.prop.size; omega) (fun k hk => by omega))
    | false =>
     have hO := (okState_iff C s).1 q1
     have HN := Lib.hid hO.needs
     have hlh := HN.out.lh
     have hlu := HN.out.lu
     have hlm := HN.out.lm
     have HO := Lib.hid hO; clear hO
     go_wp2_with (first | (go_at_call 19; refine (HSV.out _).mono ?_; rintro e z ⟨rfl, hz⟩; obtain ⟨z, rfl⟩ := Bl.on hz; clear hz))
     have hp1 := z.prop
     have c0_0 := k0_0 z
     have c0_1 := k0_1 z
     have c0_2 := k0_2 z
     have c0_3 := k0_3 z
     have c0_4 := k0_4 z
     have c0_5 := k0_5 z
     have c0_6 := k0_6 z
     have c1_0 := k1_0 z
     have c1_1 := k1_1 z
     have c1_2 := k1_2 z
     have c1_3 := k1_3 z
     have c2_0 := k2_0 z
     have c2_1 := k2_1 z
     have c2_2 := k2_2 z
     have c2_3 := k2_3 z
     have e0 := f2_0 z
     have e1 := f2_1 z
     have e2 := f2_2 z
     have e3 := f2_3 z
     generalize z.val = W1 at hp1 c0_0 c0_1 c0_2 c0_3 c0_4 c0_5 c0_6 c1_0 c1_1 c1_2 c1_3 c2_0 c2_1 c2_2 c2_3 e0 e1 e2 e3 ⊢
     clear k0_0 k0_1 k0_2 k0_3 k0_4 k0_5 k0_6 k1_0 k1_1 k1_2 k1_3 k2_0 k2_1 k2_2 k2_3 f2_0 f2_1 f2_2 f2_3 HSV
     have HP1 : Hid (Below w.heap.size w W1) := Below.step HB.out hp1
     have hs1 := hp1.size
     have HC1 := Lib.hid (HC.out.below HP1.out)
     have b0_0 : ∀ y : Bl W1, y.val.cell? ⟨w.heap.size, 0, none⟩ = some (.int .i64 C.parties) := fun y => y.cell c0_0
     have b0_1 : ∀ y : Bl W1, y.val.cell? ⟨w.heap.size, 1, none⟩ = some (.slice vhA C.holders.length vhc) := fun y => y.cell c0_1
     have b0_2 : ∀ y : Bl W1, y.val.cell? ⟨w.heap.size, 2, none⟩ = some (.slice vuA C.units.length vuc) := fun y => y.cell c0_2
     have b0_3 : ∀ y : Bl W1, y.val.cell? ⟨w.heap.size, 3, none⟩ = some (.slice vaA C.acts.length vac) := fun y => y.cell c0_3
     have b0_4 : ∀ y : Bl W1, y.val.cell? ⟨w.heap.size, 4, none⟩ = some (.slice vkA C.clauses.length vkc) := fun y => y.cell c0_4
     have b0_5 : ∀ y : Bl W1, y.val.cell? ⟨w.heap.size, 5, none⟩ = some (.int .i64 C.days) := fun y => y.cell c0_5
     have b0_6 : ∀ y : Bl W1, y.val.cell? ⟨w.heap.size, 6, none⟩ = some (.slice voA C.off.length voc) := fun y => y.cell c0_6
     have b1_0 : ∀ y : Bl W1, y.val.cell? ⟨w.heap.size + 1, 0, none⟩ = some (.int .i64 s.day) := fun y => y.cell c1_0
     have b1_1 : ∀ y : Bl W1, y.val.cell? ⟨w.heap.size + 1, 1, none⟩ = some (.slice thA s.holders.length thc) := fun y => y.cell c1_1
     have b1_2 : ∀ y : Bl W1, y.val.cell? ⟨w.heap.size + 1, 2, none⟩ = some (.slice tuA s.used.length tuc) := fun y => y.cell c1_2
     have b1_3 : ∀ y : Bl W1, y.val.cell? ⟨w.heap.size + 1, 3, none⟩ = some (.slice tmA s.marks.length tmc) := fun y => y.cell c1_3
     obtain ⟨ii, hii, hiz, his, hib⟩ := info_parts' (P := Tryz.prog) (t := 3) (z := some (.int .i64 0)) (s := 1) (b := 8) (by kernel_rfl)
     obtain ⟨ib, hbi, hbz, hbs, hbb⟩ := info_parts' (P := Tryz.prog) (t := 4) (z := some (.bool false)) (s := 1) (b := 1) (by kernel_rfl)
     obtain ⟨im, hmi, hmz, hms, hmb⟩ := info_parts' (P := Tryz.prog) (t := 57) (z := some (.agg zeroMark.cells.toArray)) (s := 5) (b := 40) (by kernel_rfl)
     refine wp_region_make (s := (⟨W1, Below.refl _ _⟩ : Bl W1)) 17 (fun i => match i with
      | 6 => some (rowSpec W1 3 s.holders.length (madeCells (Value.cells (.int .i64 0)) (s.holders.length * 1)))
      | 10 => some (rowSpec W1 4 s.used.length (madeCells (Value.cells (.bool false)) (s.used.length * 1)))
      | 14 => some (rowSpec W1 57 s.marks.length (madeCells (Value.cells (.agg zeroMark.cells.toArray)) (s.marks.length * 5)))
      | _ => none) (by simp) (by kernel_rfl) (by kernel_rfl) ?keeps ?_
     case keeps =>
      intro i sp h
      split at h
      · injection h with h; subst h; exact rowSpec_keeps _ _ _ _
      · injection h with h; subst h; exact rowSpec_keeps _ _ _ _
      · injection h with h; subst h; exact rowSpec_keeps _ _ _ _
      · cases h
     simp only [List.take_succ_cons, List.take_zero, List.drop_succ_cons, List.drop_zero]
     repeat (refine wpG_still rfl (fun K hK => ?_); go_simp; refine hK _ ?_; clear hK K)
     refine wpG_make _ rfl rfl (makes_row 22 (.tmp 36) (.tmp 36) rfl 3 ii (.int .i64 0) 1 Tryz.underlying22 hii hiz his s.holders.length rfl rfl (by rw [hib]; omega) (by omega)) ?_
     rintro _ ⟨gh, hgh, rfl⟩
     repeat (refine wpG_still rfl (fun K hK => ?_); go_simp; refine hK _ ?_; clear hK K)
     refine wpG_make _ rfl rfl (makes_row 40 (.tmp 40) (.tmp 40) rfl 4 ib (.bool false) 1 Tryz.underlying40 hbi hbz hbs s.used.length rfl rfl (by rw [hbb]; omega) (by omega)) ?_
     rintro _ ⟨gu, hgu, rfl⟩
     repeat (refine wpG_still rfl (fun K hK => ?_); go_simp; refine hK _ ?_; clear hK K)
     refine wpG_make _ rfl rfl (makes_row 41 (.tmp 44) (.tmp 44) rfl 57 im (.agg zeroMark.cells.toArray) 5 Tryz.underlying41 hmi hmz hms s.marks.length rfl rfl (by rw [hmb]; omega) (by omega)) ?_
     rintro _ ⟨gm, hgm, rfl⟩
     repeat (refine wpG_still rfl (fun K hK => ?_); go_simp; refine hK _ ?_; clear hK K)
     refine wpG_nil ?_
     rintro z2 ⟨⟨⟨_, hA⟩, hB⟩, hD⟩
     have hh := hA gh rfl
     have hu := hB gu rfl
     have hm := hD gm rfl
     clear hA hB hD
     gi_wp2
     obtain ⟨W5, HW5⟩ : ∃ W5, Hid (W5 = z2.val.alloc (.cells #[.int .i64 C.parties, .slice vhA C.holders.length vhc, .slice vuA C.units.length vuc, .slice vaA C.acts.length vac, .slice vkA C.clauses.length vkc, .int .i64 C.days, .slice voA C.off.length voc, .int .i64 s.day, .slice (some ⟨gh, 0, none⟩) s.holders.length s.holders.length, .slice (some ⟨gu, 0, none⟩) s.used.length s.used.length, .slice (some ⟨gm, 0, none⟩) s.marks.length s.marks.length] 84)) := ⟨_, rfl⟩
     rw [← HW5.out]
     obtain ⟨g, hg⟩ : ∃ g, g = z2.val.heap.size := ⟨_, rfl⟩
     rw [← hg]
     have HB5 : Hid (Below W1.heap.size W1 W5) := by show Below _ _ _; rw [HW5.out]; exact Below.alloc' z2.prop _
     have hW5 : WorkAt W1 W5 g (⟨⟨vhA, vhc⟩, ⟨vuA, vuc⟩, ⟨vaA, vac⟩, ⟨vkA, vkc⟩, ⟨voA, voc⟩⟩ : CV) C (⟨⟨some ⟨gh, 0, none⟩, s.holders.length⟩, ⟨some ⟨gu, 0, none⟩, s.used.length⟩, ⟨some ⟨gm, 0, none⟩, s.marks.length⟩⟩ : TV) ⟨s.day, List.replicate s.holders.length 0, List.replicate s.used.length false, List.replicate s.marks.length zeroMark⟩ gh gu gm := by
      refine ⟨?_, HC1.out, HB5.out, ?_, ?_, ?_, by rw [hg]; exact z2.prop.size, hgh, hgu, hgm⟩
      · rw [HW5.out, hg]
        simp only [List.length_replicate]
        exact heap_alloc_new z2.val _
      · have h : W5.heap[gh]? = some (.cells (madeCells (Value.cells (.int .i64 0)) (s.holders.length * 1)) 3 (0, 0)) := by rw [HW5.out]; exact (Below.heap_alloc _ _ _ (lt_of_heap hh)).trans hh
        have h2 := RowAt.of_block (size := 1) (n := s.holders.length) h (size_madeCells _ _) (by unfold maxLen; omega)
        rw [made_ints] at h2
        simpa only [List.length_replicate] using h2
      · have h : W5.heap[gu]? = some (.cells (madeCells (Value.cells (.bool false)) (s.used.length * 1)) 4 (0, 0)) := by rw [HW5.out]; exact (Below.heap_alloc _ _ _ (lt_of_heap hu)).trans hu
        have h2 := RowAt.of_block (size := 1) (n := s.used.length) h (size_madeCells _ _) (by unfold maxLen; omega)
        rw [made_bools] at h2
        simpa only [List.length_replicate] using h2
      · have h : W5.heap[gm]? = some (.cells (madeCells (Value.cells (.agg zeroMark.cells.toArray)) (s.marks.length * 5)) 57 (0, 0)) := by rw [HW5.out]; exact (Below.heap_alloc _ _ _ (lt_of_heap hm)).trans hm
        have h2 := RowAt.of_block (size := 5) (n := s.marks.length) h (size_madeCells _ _) (by unfold maxLen; omega)
        rw [show (Value.cells (.agg zeroMark.cells.toArray)) = zeroMark.cells.toArray from rfl, made_marks] at h2
        simpa only [List.length_replicate] using h2
     have HH5 := Lib.hid hW5; clear hW5 hh hu hm HW5 HB5 b0_0 b0_1 b0_2 b0_3 b0_4 b0_5 b0_6 b1_0 b1_1 b1_2 b1_3
     have HG := Lib.hid hg; clear hg
     go_wp2
     have r1 : ∀ y : Bl W5, y.val.cell? ⟨g, 8, none⟩ = some (.slice (some ⟨gh, 0, none⟩) s.holders.length s.holders.length) := fun y => by
      have h := (HH5.out.on y.prop).cell 8
      simp only [List.length_replicate] at h
      exact h
     have r2 : ∀ y : Bl W5, y.val.cell? ⟨w.heap.size + 1, 1, none⟩ = some (.slice thA s.holders.length thc) := fun y => y.cell (((bcell HH5.out.below).1 _ _ (by omega)).trans c1_1)
     refine wp_region_preB (s := (⟨W5, Below.refl _ _⟩ : Bl W5)) 7 (by simp) (by kernel_rfl) (by kernel_rfl) ?_
     simp only [List.take_succ_cons, List.take_zero, List.drop_succ_cons, List.drop_zero]
     repeat (go_big_quiet_step (fail))
     refine wpQuiet_nil ?_
     rintro _ ⟨y, rfl⟩
     clear r1 r2
     refine wpListIn_copy_row _ rfl (.tmp 53) (.tmp 55) 22 rfl 3 ii 1 Tryz.underlying22 hii his rfl rfl (by
      have h := (HH5.out.on y.prop).holders
      simp only [List.length_replicate] at h
      exact h) ((HS.out.holders.1).below (by omega) (Below.step HP1.out (Below.step HH5.out.below y.prop))) ?_
     intro W6 hr hu
     have hWn : WorkAt W1 W6 g (⟨⟨vhA, vhc⟩, ⟨vuA, vuc⟩, ⟨vaA, vac⟩, ⟨vkA, vkc⟩, ⟨voA, voc⟩⟩ : CV) C (⟨⟨some ⟨gh, 0, none⟩, s.holders.length⟩, ⟨some ⟨gu, 0, none⟩, s.used.length⟩, ⟨some ⟨gm, 0, none⟩, s.marks.length⟩⟩ : TV) ⟨s.day, s.holders, List.replicate s.used.length false, List.replicate s.marks.length zeroMark⟩ gh gu gm := (HH5.out.on y.prop).newHolders s.holders (by simp) (by simpa only [List.length_replicate] using hr) hu
     have HW6 := Lib.hid hWn; clear hWn hr hu HH5
     clear y
     refine wpListIn_nil ?_
     go_frame
     go_wp2
     have r1 : ∀ y : Bl W6, y.val.cell? ⟨g, 9, none⟩ = some (.slice (some ⟨gu, 0, none⟩) s.used.length s.used.length) := fun y => by
      have h := (HW6.out.on y.prop).cell 9
      simp only [List.length_replicate] at h
      exact h
     have r2 : ∀ y : Bl W6, y.val.cell? ⟨w.heap.size + 1, 2, none⟩ = some (.slice tuA s.used.length tuc) := fun y => y.cell (((bcell HW6.out.below).1 _ _ (by omega)).trans c1_2)
     refine wp_region_preB (s := (⟨W6, Below.refl _ _⟩ : Bl W6)) 7 (by simp) (by kernel_rfl) (by kernel_rfl) ?_
     simp only [List.take_succ_cons, List.take_zero, List.drop_succ_cons, List.drop_zero]
     repeat (go_big_quiet_step (fail))
     refine wpQuiet_nil ?_
     rintro _ ⟨y, rfl⟩
     clear r1 r2
     refine wpListIn_copy_row _ rfl (.tmp 61) (.tmp 63) 40 rfl 4 ib 1 Tryz.underlying40 hbi hbs rfl rfl (by
      have h := (HW6.out.on y.prop).used
      simp only [List.length_replicate] at h
      exact h) ((HS.out.used.1).below (by omega) (Below.step HP1.out (Below.step HW6.out.below y.prop))) ?_
     intro W7 hr hu
     have hWn : WorkAt W1 W7 g (⟨⟨vhA, vhc⟩, ⟨vuA, vuc⟩, ⟨vaA, vac⟩, ⟨vkA, vkc⟩, ⟨voA, voc⟩⟩ : CV) C (⟨⟨some ⟨gh, 0, none⟩, s.holders.length⟩, ⟨some ⟨gu, 0, none⟩, s.used.length⟩, ⟨some ⟨gm, 0, none⟩, s.marks.length⟩⟩ : TV) ⟨s.day, s.holders, s.used, List.replicate s.marks.length zeroMark⟩ gh gu gm := (HW6.out.on y.prop).newUsed s.used (by simp) (by simpa only [List.length_replicate] using hr) hu
     have HW7 := Lib.hid hWn; clear hWn hr hu HW6
     clear y
     refine wpListIn_nil ?_
     go_frame
     go_wp2
     have r1 : ∀ y : Bl W7, y.val.cell? ⟨g, 10, none⟩ = some (.slice (some ⟨gm, 0, none⟩) s.marks.length s.marks.length) := fun y => by
      have h := (HW7.out.on y.prop).cell 10
      simp only [List.length_replicate] at h
      exact h
     have r2 : ∀ y : Bl W7, y.val.cell? ⟨w.heap.size + 1, 3, none⟩ = some (.slice tmA s.marks.length tmc) := fun y => y.cell (((bcell HW7.out.below).1 _ _ (by omega)).trans c1_3)
     refine wp_region_preB (s := (⟨W7, Below.refl _ _⟩ : Bl W7)) 7 (by simp) (by kernel_rfl) (by kernel_rfl) ?_
     simp only [List.take_succ_cons, List.take_zero, List.drop_succ_cons, List.drop_zero]
     repeat (go_big_quiet_step (fail))
     refine wpQuiet_nil ?_
     rintro _ ⟨y, rfl⟩
     clear r1 r2
     refine wpListIn_copy_row _ rfl (.tmp 69) (.tmp 71) 41 rfl 57 im 5 Tryz.underlying41 hmi hms rfl rfl (by
      have h := (HW7.out.on y.prop).marks
      simp only [List.length_replicate] at h
      exact h) ((HS.out.marks.1).below (by omega) (Below.step HP1.out (Below.step HW7.out.below y.prop))) ?_
     intro W8 hr hu
     have hWn : WorkAt W1 W8 g (⟨⟨vhA, vhc⟩, ⟨vuA, vuc⟩, ⟨vaA, vac⟩, ⟨vkA, vkc⟩, ⟨voA, voc⟩⟩ : CV) C (⟨⟨some ⟨gh, 0, none⟩, s.holders.length⟩, ⟨some ⟨gu, 0, none⟩, s.used.length⟩, ⟨some ⟨gm, 0, none⟩, s.marks.length⟩⟩ : TV) ⟨s.day, s.holders, s.used, s.marks⟩ gh gu gm := (HW7.out.on y.prop).setMarks s.marks (by simp) (by simpa only [List.length_replicate] using hr) hu
     have HW8 := Lib.hid hWn; clear hWn hr hu HW7
     clear y
     refine wpListIn_nil ?_
     go_frame
     cases q5 : (x == -1) with
     | true =>
      have HT := Lib.hid (tick_any HW8.out HO.out.lm HN.out.hin HN.out.hro HN.out.hki HN.out.hof HN.out.hol HN.out.hd0 HN.out.hd1 HN.out.hle)
      go_wp2_with (go_at_call 48; refine HT.out.mono ?_; rintro e zc ⟨rfl, hz1, hz2⟩; refine Hid.out ?_)
      refine Lib.hid ?_
      generalize hs2 : C.tick ⟨s.day, s.holders, s.used, s.marks⟩ = s2 at hz1
      have HS2 := Lib.hid hs2; clear hs2
      have n7 : zc.cell? ⟨g, 7, none⟩ = some (.int .i64 s2.day) := hz1.cell 7
      have n8 : zc.cell? ⟨g, 8, none⟩ = some (.slice (some ⟨gh, 0, none⟩) s2.holders.length s.holders.length) := hz1.cell 8
      have n9 : zc.cell? ⟨g, 9, none⟩ = some (.slice (some ⟨gu, 0, none⟩) s2.used.length s.used.length) := hz1.cell 9
      have n10 : zc.cell? ⟨g, 10, none⟩ = some (.slice (some ⟨gm, 0, none⟩) s2.marks.length s.marks.length) := hz1.cell 10
      have t0 := ((bcell hz1.below).1 (w.heap.size + 1 + 1) 0 (by omega)).trans c2_0
      have u0 := ((bcell hz1.below).2 (w.heap.size + 1 + 1) 0 (by omega)).trans e0
      have t1 := ((bcell hz1.below).1 (w.heap.size + 1 + 1) 1 (by omega)).trans c2_1
      have u1 := ((bcell hz1.below).2 (w.heap.size + 1 + 1) 1 (by omega)).trans e1
      have t2 := ((bcell hz1.below).1 (w.heap.size + 1 + 1) 2 (by omega)).trans c2_2
      have u2 := ((bcell hz1.below).2 (w.heap.size + 1 + 1) 2 (by omega)).trans e2
      have t3 := ((bcell hz1.below).1 (w.heap.size + 1 + 1) 3 (by omega)).trans c2_3
      have u3 := ((bcell hz1.below).2 (w.heap.size + 1 + 1) 3 (by omega)).trans e3
      have HZ := Lib.hid hz1; clear hz1
      go_wp2
      obtain ⟨Wf, HWf⟩ : ∃ Wf, Hid (Wf = (((zc.setCell ⟨w.heap.size + 1 + 1, 0, none⟩ (.int .i64 s2.day)).setCell ⟨w.heap.size + 1 + 1, 1, none⟩ (.slice (some ⟨gh, 0, none⟩) s2.holders.length s.holders.length)).setCell ⟨w.heap.size + 1 + 1, 2, none⟩ (.slice (some ⟨gu, 0, none⟩) s2.used.length s.used.length)).setCell ⟨w.heap.size + 1 + 1, 3, none⟩ (.slice (some ⟨gm, 0, none⟩) s2.marks.length s.marks.length)) := ⟨_, rfl⟩
      rw [← HWf.out]
      obtain ⟨d0, d1, d2, d3, hUf⟩ := stored4 t0 t1 t2 t3 HWf.out
      refine bodyPost_ret (v := .tuple #[.agg #[.int .i64 s2.day, .slice (some ⟨gh, 0, none⟩) s2.holders.length s.holders.length, .slice (some ⟨gu, 0, none⟩) s2.used.length s.used.length, .slice (some ⟨gm, 0, none⟩) s2.marks.length s.marks.length], .int .i64 0]) (by simp [results, Tryz.results21, go_sem, d0, d1, d2, d3]) rfl ⟨?_, .inl ⟨by simp only [KCon.stepErr, q1, q2, q3, q4, Bool.not_true, cond_false], (⟨⟨some ⟨gh, 0, none⟩, s.holders.length⟩, ⟨some ⟨gu, 0, none⟩, s.used.length⟩, ⟨some ⟨gm, 0, none⟩, s.marks.length⟩⟩ : TV), ?_, ?_, newSV_mk (Nat.le_trans HP1.out.size HZ.out.newH), newSV_mk (Nat.le_trans HP1.out.size HZ.out.newU), newSV_mk (Nat.le_trans HP1.out.size HZ.out.newM)⟩⟩
      · exact (HP1.out.trans (HZ.out.below.mono HP1.out.size)).trans (hUf.below (by have h1 := HP1.out.size; have h2 := HZ.out.below.size; omega) (fun k hk => by omega))
      · rw [show C.next s x = s2 by simp only [KCon.next, q5, cond_true]; exact HS2.out]
        rfl
      · rw [show C.next s x = s2 by simp only [KCon.next, q5, cond_true]; exact HS2.out]
        exact HZ.out.stateOn hUf (fun k hk => by omega)
     | false =>
      obtain ⟨i, rfl⟩ : ∃ i : Nat, x = i := by
       have h1 : x ≠ -1 := by simpa using q5
       have h2 : ¬ x < -1 := by simpa using q2
       exact ⟨x.toNat, by omega⟩
      have hil : i < C.acts.length := by
       have h3 : ¬ (C.acts.length : Int) ≤ (i : Int) := by simpa using q3
       omega
      obtain ⟨a, ha⟩ : ∃ a, C.acts[i]? = some a := ⟨_, List.getElem?_eq_getElem hil⟩
      have hact := (KCon.ok HO.out.con).act (List.mem_of_getElem? ha)
      have hlh2 := HO.out.lh
      have HT := Lib.hid (act_any HW8.out i a ha (by show i < s.used.length; rw [HO.out.lu]; exact hil) (by show a.kind ≠ 1 → 0 ≤ a.give ∧ a.give < s.holders.length; rw [hlh2]; exact hact.give) HO.out.lm HN.out.hin HN.out.hro HN.out.hki (by show a.role ≠ -1 → 0 ≤ a.role ∧ a.role < s.holders.length; rw [hlh2]; exact hact.role) HN.out.hgo)
      have HA := Lib.hid ha; clear ha hact hlh2
      go_wp2_with (go_at_call 49; refine HT.out.mono ?_; rintro e zc ⟨rfl, hz1, hz2⟩; refine Hid.out ?_)
      refine Lib.hid ?_
      generalize hs2 : C.act i a ⟨s.day, s.holders, s.used, s.marks⟩ = s2 at hz1
      have HS2 := Lib.hid hs2; clear hs2
      have n7 : zc.cell? ⟨g, 7, none⟩ = some (.int .i64 s2.day) := hz1.cell 7
      have n8 : zc.cell? ⟨g, 8, none⟩ = some (.slice (some ⟨gh, 0, none⟩) s2.holders.length s.holders.length) := hz1.cell 8
      have n9 : zc.cell? ⟨g, 9, none⟩ = some (.slice (some ⟨gu, 0, none⟩) s2.used.length s.used.length) := hz1.cell 9
      have n10 : zc.cell? ⟨g, 10, none⟩ = some (.slice (some ⟨gm, 0, none⟩) s2.marks.length s.marks.length) := hz1.cell 10
      have t0 := ((bcell hz1.below).1 (w.heap.size + 1 + 1) 0 (by omega)).trans c2_0
      have u0 := ((bcell hz1.below).2 (w.heap.size + 1 + 1) 0 (by omega)).trans e0
      have t1 := ((bcell hz1.below).1 (w.heap.size + 1 + 1) 1 (by omega)).trans c2_1
      have u1 := ((bcell hz1.below).2 (w.heap.size + 1 + 1) 1 (by omega)).trans e1
      have t2 := ((bcell hz1.below).1 (w.heap.size + 1 + 1) 2 (by omega)).trans c2_2
      have u2 := ((bcell hz1.below).2 (w.heap.size + 1 + 1) 2 (by omega)).trans e2
      have t3 := ((bcell hz1.below).1 (w.heap.size + 1 + 1) 3 (by omega)).trans c2_3
      have u3 := ((bcell hz1.below).2 (w.heap.size + 1 + 1) 3 (by omega)).trans e3
      have HZ := Lib.hid hz1; clear hz1
      go_wp2
      obtain ⟨Wf, HWf⟩ : ∃ Wf, Hid (Wf = (((zc.setCell ⟨w.heap.size + 1 + 1, 0, none⟩ (.int .i64 s2.day)).setCell ⟨w.heap.size + 1 + 1, 1, none⟩ (.slice (some ⟨gh, 0, none⟩) s2.holders.length s.holders.length)).setCell ⟨w.heap.size + 1 + 1, 2, none⟩ (.slice (some ⟨gu, 0, none⟩) s2.used.length s.used.length)).setCell ⟨w.heap.size + 1 + 1, 3, none⟩ (.slice (some ⟨gm, 0, none⟩) s2.marks.length s.marks.length)) := ⟨_, rfl⟩
      rw [← HWf.out]
      obtain ⟨d0, d1, d2, d3, hUf⟩ := stored4 t0 t1 t2 t3 HWf.out
      refine bodyPost_ret (v := .tuple #[.agg #[.int .i64 s2.day, .slice (some ⟨gh, 0, none⟩) s2.holders.length s.holders.length, .slice (some ⟨gu, 0, none⟩) s2.used.length s.used.length, .slice (some ⟨gm, 0, none⟩) s2.marks.length s.marks.length], .int .i64 0]) (by simp [results, Tryz.results21, go_sem, d0, d1, d2, d3]) rfl ⟨?_, .inl ⟨by simp only [KCon.stepErr, q1, q2, q3, q4, Bool.not_true, cond_false], (⟨⟨some ⟨gh, 0, none⟩, s.holders.length⟩, ⟨some ⟨gu, 0, none⟩, s.used.length⟩, ⟨some ⟨gm, 0, none⟩, s.marks.length⟩⟩ : TV), ?_, ?_, newSV_mk (Nat.le_trans HP1.out.size HZ.out.newH), newSV_mk (Nat.le_trans HP1.out.size HZ.out.newU), newSV_mk (Nat.le_trans HP1.out.size HZ.out.newM)⟩⟩
      · exact (HP1.out.trans (HZ.out.below.mono HP1.out.size)).trans (hUf.below (by have h1 := HP1.out.size; have h2 := HZ.out.below.size; omega) (fun k hk => by omega))
      · rw [show C.next s (i : Int) = s2 by simp only [KCon.next, q5, cond_false, Int.toNat_natCast, HA.out]; exact HS2.out]
        rfl
      · rw [show C.next s (i : Int) = s2 by simp only [KCon.next, q5, cond_false, Int.toNat_natCast, HA.out]; exact HS2.out]
        exact HZ.out.stateOn hUf (fun k hk => by omega)
end Go.Proofs.YtaielhafpmjkaaaGreatDoor
