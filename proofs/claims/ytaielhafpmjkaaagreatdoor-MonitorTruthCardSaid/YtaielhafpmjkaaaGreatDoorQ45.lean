/-
  Truth
-/
import Derived.Test.YtaielhafpmjkaaaGreatDoorQ41
import Derived.Test.YtaielhafpmjkaaaGreatDoorQ12
import Derived.Test.YtaielhafpmjkaaaGreatDoorQ36
namespace Go.Proofs.YtaielhafpmjkaaaGreatDoor
open Go.RowKit Go.Shelf
set_option maxRecDepth 100000 in
set_option maxHeartbeats 4000000 in
theorem truth_walk (v : CV) (C : KCon) (lv : SV) (l : List Int) (p : Int) (w : World) (hC : ConAt w v C) (hV : At w 1 lv.A l.length lv.c (ints l)) (hT : Tab w) : Calls Tryz.prog 7 #[v.val C, .slice lv.A l.length lv.c, .int .i64 p] w (RetB (.bool true) w) := by
 obtain ⟨⟨vhA, vhc⟩, ⟨vuA, vuc⟩, ⟨vaA, vac⟩, ⟨vkA, vkc⟩, ⟨voA, voc⟩⟩ := v
 obtain ⟨lA, lc⟩ := lv
 have hlx : l.length ≤ 9223372036854775807 := by have h1 := hV.2.2.1; have h2 := hV.2.2.2; unfold maxLen at h2; omega
 have HC := Lib.hid hC; clear hC
 have HL := Lib.hid hV; clear hV
 have HT := Lib.hid hT; clear hT
 simp only [CV.val, CV.cells]
 go_enter Tryz.func7, Tryz.ntmps7
 go_upto_region 1 with (fail)
 generalize hW0 : World.alloc _ _ = W0
 obtain ⟨HB, hh0⟩ := bx1 hW0
 clear hW0
 obtain ⟨k0_0, k0_1, k0_2, k0_3, k0_4, k0_5, k0_6⟩ := kc7 hh0
 clear hh0
 change Code.wp _ _ _ _ (Bl.val (⟨W0, Below.refl _ _⟩ : Bl W0))
 generalize (⟨W0, Below.refl _ _⟩ : Bl W0) = s0
 have HH := Lib.hid (fun z : Bl W0 => head_any z.val (HT.out.below (Below.step HB.out z.prop)))
 have HFW := Lib.hid (fun z : Bl W0 => few_any (⟨⟨vhA, vhc⟩, ⟨vuA, vuc⟩, ⟨vaA, vac⟩, ⟨vkA, vkc⟩, ⟨voA, voc⟩⟩ : CV) C ⟨lA, lc⟩ l 0 ⟨none, 0⟩ [] z.val (HC.out.below (Below.step HB.out z.prop)) (HL.out.below (by omega) (Below.step HB.out z.prop)) ⟨[], rfl, at_nil _ _, fun i s t h => by simp at h⟩)
 simp only [CV.val, CV.cells] at HFW
 have HRU := Lib.hid (fun z : Bl W0 => run_any (⟨⟨vhA, vhc⟩, ⟨vuA, vuc⟩, ⟨vaA, vac⟩, ⟨vkA, vkc⟩, ⟨voA, voc⟩⟩ : CV) C ⟨lA, lc⟩ l z.val (HC.out.below (Below.step HB.out z.prop)) (HL.out.below (by omega) (Below.step HB.out z.prop)))
 simp only [CV.val, CV.cells] at HRU
 have HVI := Lib.hid (fun z : Bl W0 => view_any (⟨⟨vhA, vhc⟩, ⟨vuA, vuc⟩, ⟨vaA, vac⟩, ⟨vkA, vkc⟩, ⟨voA, voc⟩⟩ : CV) C ⟨lA, lc⟩ l p z.val (HC.out.below (Below.step HB.out z.prop)) (HL.out.below (by omega) (Below.step HB.out z.prop)))
 simp only [CV.val, CV.cells] at HVI
 go_wp2_with (first | (go_at_call 11; refine (HH.out _).mono ?_; rintro e z ⟨rfl, hz⟩; obtain ⟨z, rfl⟩ := Bl.on hz; clear hz) | (go_at_call 12; refine (HFW.out _).mono ?_; rintro e z ⟨fx, rfl, hz⟩; obtain ⟨z, rfl⟩ := Bl.on hz; clear hz; refine Hid.out ?_))
 refine Lib.hid ?_
 cases fx with
 | false =>
  go_wp2
  go_ret
  exact ⟨rfl, Below.step HB.out (Bl.prop _)⟩
 | true =>
  go_wp2_with (go_at_call 24; refine (HRU.out _).mono ?_; rintro e y1 ⟨sA, sc, R, e1, rfl, hb1, hc1⟩; obtain ⟨y1, rfl⟩ := Bl.on hb1; clear hb1; refine Hid.out ?_)
  refine Lib.hid ?_
  have HC1 := Lib.hid hc1; clear hc1
  go_wp2_with (go_at_call 25; refine (HVI.out _).mono ?_; rintro e y2 ⟨vA, vc, view, e2, rfl, hb2, hc2⟩; refine Hid.out ?_)
  refine Lib.hid ?_
  have HP1 : Hid (Below W0.heap.size W0 y2) := Below.step y1.prop hb2
  have HY := Lib.hid hb2
  have HC2 := Lib.hid hc2
  clear hb2 hc2
  cases q1 : (e1 == 0) with
  | false =>
   have q1n : ¬ (e1 = 0) := by rw [beq_eq_false_iff_ne] at q1; exact q1
   have q1b : (e1 != 0) = true := by simpa using q1n
   go_wp2
   go_ret
   exact ⟨rfl, Below.step HB.out HP1.out⟩
  | true =>
   obtain rfl : e1 = 0 := by rw [beq_iff_eq] at q1; exact q1
   obtain ⟨HG, HR, HRN⟩ : Hid (Good C l) ∧ Hid (R = C.trail l l.length) ∧ Hid (StatesAt y2 ⟨sA, sc⟩ R) := by
    rcases HC1.out with ⟨_, h2, h3, h4⟩ | ⟨h1, _⟩
    · exact ⟨h2, h3, h4.at.below HY.out⟩
    · exact absurd rfl h1
   clear q1 HC1 HRU HVI
   cases q2 : (e2 == 0) with
   | false =>
    have q2n : ¬ (e2 = 0) := by rw [beq_eq_false_iff_ne] at q2; exact q2
    have q2b : (e2 != 0) = true := by simpa using q2n
    go_wp2
    go_ret
    exact ⟨rfl, Below.step HB.out HP1.out⟩
   | true =>
    obtain rfl : e2 = 0 := by rw [beq_iff_eq] at q2; exact q2
    obtain ⟨HPA, HVW, HAT⟩ : Hid (0 ≤ p ∧ p < C.parties) ∧ Hid (view = viewTo C l [p] l.length) ∧ Hid (At y2 1 vA view.length vc (ints view)) := by
     rcases HC2.out with ⟨_, _, h3, h4, h5⟩ | ⟨h1, _⟩
     · exact ⟨h3, h4, h5⟩
     · exact absurd rfl h1
    clear q2 HC2 HY
    have HB1 : Hid (Below w.heap.size w y2) := Below.step HB.out HP1.out
    have k0 := kup HP1.out k0_0
    have k1 := kup HP1.out k0_1
    have k2 := kup HP1.out k0_2
    have k3 := kup HP1.out k0_3
    have k4 := kup HP1.out k0_4
    have k5 := kup HP1.out k0_5
    have k6 := kup HP1.out k0_6
    clear k0_0 k0_1 k0_2 k0_3 k0_4 k0_5 k0_6
    have HWA := Lib.hid (fun z : Bl y2 => watch_any (⟨⟨vhA, vhc⟩, ⟨vuA, vuc⟩, ⟨vaA, vac⟩, ⟨vkA, vkc⟩, ⟨voA, voc⟩⟩ : CV) C p ⟨vA, vc⟩ view z.val (HC.out.below (Below.step HB1.out z.prop)) (HAT.out.below (by omega) z.prop) (HT.out.below (Below.step HB1.out z.prop)))
    simp only [CV.val, CV.cells] at HWA
    obtain ⟨s1, hs1⟩ : ∃ s1 : Bl y2, s1.val = y2 := ⟨⟨y2, Below.refl _ _⟩, rfl⟩
    rw [← hs1]
    clear hs1
    go_wp2_with (go_at_call 18; refine (HWA.out _).mono ?_; rintro e z1 ⟨qq, A, c, r, er, rfl, hb1, hcase⟩; refine Hid.out ?_)
    refine Lib.hid ?_
    obtain ⟨zb, HZB⟩ : ∃ zb : Bl y2, Hid (Below zb.val.heap.size zb.val z1 ∧ ((er = 0 ∧ qq = p ∧ StatesN zb.val.heap.size z1 ⟨A, c⟩ r ∧ WatchOk C p view r) ∨ (er ≠ 0 ∧ qq = 0 ∧ A = none ∧ c = 0 ∧ r = [] ∧ WatchEr C p view er))) := ⟨_, hb1, hcase⟩
    clear hb1 hcase HWA
    go_upto_region 9 with (fail)
    obtain ⟨W2, HW2⟩ : ∃ W2, Hid (W2 = z1.alloc (.cells #[.int .i64 qq, .slice A r.length c] 30)) := ⟨_, rfl⟩
    rw [← HW2.out]
    have hb2 : Below z1.heap.size z1 W2 := by rw [HW2.out]; exact Below.alloc' (Below.refl _ _) _
    have hx2 : W2.heap[z1.heap.size]? = some (.cells #[.int .i64 qq, .slice A r.length c] 30 (0, 0)) := by rw [HW2.out]; exact heap_alloc_new z1 _
    have HP2 : Hid (Below y2.heap.size y2 W2) := Below.step (Below.step zb.prop HZB.out.1) hb2
    have HB2 : Hid (Below w.heap.size w W2) := Below.step HB1.out HP2.out
    obtain ⟨d0, d1⟩ := kc2 hx2
    have m0 := kup HP2.out k0
    have m1 := kup HP2.out k1
    have m2 := kup HP2.out k2
    have m3 := kup HP2.out k3
    have m4 := kup HP2.out k4
    have m5 := kup HP2.out k5
    have m6 := kup HP2.out k6
    clear hx2 k0 k1 k2 k3 k4 k5 k6
    obtain ⟨s2, hs2⟩ : ∃ s2 : Bl W2, s2.val = W2 := ⟨⟨W2, Below.refl _ _⟩, rfl⟩
    rw [← hs2]
    clear hs2
    by_cases h3 : er = 3
    · subst h3
      obtain ⟨HA, Hc, Hr⟩ : Hid (A = none) ∧ Hid (c = 0) ∧ Hid (r = []) := by
       rcases HZB.out.2 with ⟨e1, _⟩ | ⟨_, _, e2, e3, e4, _⟩
       · cases e1
       · exact ⟨e2, e3, e4⟩
      have h1 := HA.out; have h2 := Hc.out; have h3 := Hr.out
      subst h1 h2 h3
      simp only [List.length_nil] at d1
      clear HA Hc Hr HZB
      go_wp2
      go_ret
      exact ⟨rfl, Below.step HB2.out (Bl.prop _)⟩
    · obtain ⟨H0, HQ, HSN, HOK⟩ : Hid (er = 0) ∧ Hid (qq = p) ∧ Hid (StatesAt z1 ⟨A, c⟩ r) ∧ Hid (Watched C p view r) := by
       rcases HZB.out.2 with ⟨e1, e2, e3, e4⟩ | ⟨_, _, _, _, _, e6⟩
       · exact ⟨e1, e2, e3.at, e4.2⟩
       · rw [HVW.out] at e6
         exact absurd (watchEr_limit HG.out HPA.out e6) h3
      have h0 := H0.out
      have hq := HQ.out
      subst h0 hq
      clear H0 HQ HZB h3
      have hrl : R.length = l.length + 1 := by rw [HR.out, trail_len]
      have HLS : Hid (R[l.length]? = some (C.att l)) := by show _ = _; rw [HR.out, trail_get (Nat.le_refl _), List.take_length]
      obtain ⟨b1, o1, hA1, hl1, hc1⟩ := HRN.out.form (by omega)
      try simp only at hA1
      subst hA1
      obtain ⟨⟨⟨shA, shc⟩, ⟨suA, suc⟩, ⟨smA, smc⟩⟩, hst, hcs⟩ := hc1 l.length _ HLS.out
      have HSL : Hid (∀ z : Bl W2, StateAt z.val (⟨⟨shA, shc⟩, ⟨suA, suc⟩, ⟨smA, smc⟩⟩ : TV) (C.att l)) := fun z => hst.below (Below.step HP2.out z.prop)
      generalize hls : C.att l = s at hcs HSL
      have HSS := Lib.hid hls
      have e0 : ∀ z : Bl W2, z.val.cell? ⟨b1, o1 + l.length * 4, none⟩ = some (.int .i64 s.day) := fun z => hcs z.val (Below.step HP2.out z.prop) 0 (by omega)
      have e1 : ∀ z : Bl W2, z.val.cell? ⟨b1, o1 + l.length * 4 + 1, none⟩ = some (.slice shA s.holders.length shc) := fun z => hcs z.val (Below.step HP2.out z.prop) 1 (by omega)
      have e2 : ∀ z : Bl W2, z.val.cell? ⟨b1, o1 + l.length * 4 + 2, none⟩ = some (.slice suA s.used.length suc) := fun z => hcs z.val (Below.step HP2.out z.prop) 2 (by omega)
      have e3 : ∀ z : Bl W2, z.val.cell? ⟨b1, o1 + l.length * 4 + 3, none⟩ = some (.slice smA s.marks.length smc) := fun z => hcs z.val (Below.step HP2.out z.prop) 3 (by omega)
      clear hl1 hc1 hst hcs hls
      have HIN : Hid (hasB r s = true) := by
       show _ = _
       have h1 := HOK.out
       rw [HVW.out] at h1
       have h2 := truth HG.out HPA.out l.length r (Nat.le_refl _) h1
       rw [List.take_length, HSS.out] at h2
       exact hasB_iff.2 h2
      have HHA := Lib.hid (fun z : Bl W2 => has_any qq ⟨A, c⟩ r (⟨⟨shA, shc⟩, ⟨suA, suc⟩, ⟨smA, smc⟩⟩ : TV) s z.val (HSN.out.below (Below.step hb2 z.prop)) (HSL.out z))
      simp only [TV.val, TV.cells, KState.cells] at HHA
      rw [HIN.out] at HHA
      have x1 : ((R.length : Int) == (l.length : Int) + 1) = true := by rw [beq_iff_eq]; omega
      have x2 : (l.length : Int) < (R.length : Int) := by omega
      have x3 : (l.length : Int) + 1 ≤ 9223372036854775807 := by have := HG.out.len; omega
      clear hb2 hrl
      go_wp2_with fail
      refine wp_region_bl (by kernel_rfl) (by kernel_rfl) ?_
      repeat (go_big_quiet_step ((first | (go_at_call 23; exact Calls.bl_of (HHA.out _)))))
      refine wpQuiet_nil ?_
      rintro _ ⟨zq, rfl⟩
      go_wp2
      go_ret
      exact ⟨rfl, Below.step HB2.out (Bl.prop _)⟩
end Go.Proofs.YtaielhafpmjkaaaGreatDoor
