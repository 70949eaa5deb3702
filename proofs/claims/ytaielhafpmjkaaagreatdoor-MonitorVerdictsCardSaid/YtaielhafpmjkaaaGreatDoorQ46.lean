/-
  Verd
-/
import Derived.Test.YtaielhafpmjkaaaGreatDoorQ41
import Derived.Test.YtaielhafpmjkaaaGreatDoorQ12
import Derived.Test.YtaielhafpmjkaaaGreatDoorQ36
namespace Go.Proofs.YtaielhafpmjkaaaGreatDoor
open Go.RowKit Go.Shelf
theorem means_any (x : Int) (w : World) : Calls Tryz.prog 26 #[.int .i64 x] w (RetB (.int .i64 (meansI x)) w) := by
 generalize hE : meansI x = E
 unfold meansI at hE
 cases h3 : (x == 3) <;> cases h5 : (x == 5) <;> cases h4 : (x == 4)
 all_goals
  rw [h3, h5, h4] at hE
  subst hE
  go_enter Tryz.func26, Tryz.ntmps26
  go_wp2
  go_ret
  exact ⟨rfl, Below.refl _ _⟩
set_option maxRecDepth 100000 in
set_option maxHeartbeats 4000000 in
theorem verdicts_walk (v : CV) (C : KCon) (lv : SV) (l : List Int) (p k q : Int) (w : World) (hC : ConAt w v C) (hV : At w 1 lv.A l.length lv.c (ints l)) (hT : Tab w) : Calls Tryz.prog 6 #[v.val C, .slice lv.A l.length lv.c, .int .i64 p, .int .i64 k, .int .i64 q] w (RetB (.bool true) w) := by
 obtain ⟨⟨vhA, vhc⟩, ⟨vuA, vuc⟩, ⟨vaA, vac⟩, ⟨vkA, vkc⟩, ⟨voA, voc⟩⟩ := v
 obtain ⟨lA, lc⟩ := lv
 have hlx : l.length ≤ 9223372036854775807 := by have h1 := hV.2.2.1; have h2 := hV.2.2.2; unfold maxLen at h2; omega
 have HC := Lib.hid hC; clear hC
 have HL := Lib.hid hV; clear hV
 have HT := Lib.hid hT; clear hT
 have hkx : C.clauses.length ≤ 9223372036854775807 := by obtain ⟨_, _, h, _⟩ := HC.out.clauses; have h1 := h.2.2.1; have h2 := h.2.2.2; unfold maxLen at h2; omega
 simp only [CV.val, CV.cells]
 go_enter Tryz.func6, Tryz.ntmps6
 go_upto_region 1 with (fail)
 generalize hW0 : World.alloc _ _ = W0
 obtain ⟨HB, hh0⟩ := bx1 hW0
 clear hW0
 obtain ⟨k0_0, k0_1, k0_2, k0_3, k0_4, k0_5, k0_6⟩ := kc7 hh0
 clear hh0
 change Code.wp _ _ _ _ (Bl.val (⟨W0, Below.refl _ _⟩ : Bl W0))
 generalize (⟨W0, Below.refl _ _⟩ : Bl W0) = s0
 have HH := Lib.hid (fun z : Bl W0 => head_any z.val (HT.out.below (Below.step HB.out z.prop)))
 have HFW := Lib.hid (fun z : Bl W0 => few_any (⟨⟨vhA, vhc⟩, ⟨vuA, vuc⟩, ⟨vaA, vac⟩, ⟨vkA, vkc⟩, ⟨voA, voc⟩⟩ : CV) C ⟨lA, lc⟩ l 0 ⟨none, 0⟩ [] z.val (HC.out.below (Below.step HB.out z.prop)) (HL.out.below (by omega) (Below.step HB.out z.prop)) ⟨[], rfl, at_nil _ _, fun i s t h => by simp at h⟩)
 simp only [CV.val, CV.cells] at HFW
 have HRU := Lib.hid (fun z : Bl W0 => run_any (⟨⟨vhA, vhc⟩, ⟨vuA, vuc⟩, ⟨vaA, vac⟩, ⟨vkA, vkc⟩, ⟨voA, voc⟩⟩ : CV) C ⟨lA, lc⟩ l z.val (HC.out.below (Below.step HB.out z.prop)) (HL.out.below (by omega) (Below.step HB.out z.prop)))
 simp only [CV.val, CV.cells] at HRU
 have HVI := Lib.hid (fun z : Bl W0 => view_any (⟨⟨vhA, vhc⟩, ⟨vuA, vuc⟩, ⟨vaA, vac⟩, ⟨vkA, vkc⟩, ⟨voA, voc⟩⟩ : CV) C ⟨lA, lc⟩ l p z.val (HC.out.below (Below.step HB.out z.prop)) (HL.out.below (by omega) (Below.step HB.out z.prop)))
 simp only [CV.val, CV.cells] at HVI
 cases q5 : decide (k < 0) with
 | true =>
  go_wp2_with (first | (go_at_call 11; refine (HH.out _).mono ?_; rintro e z ⟨rfl, hz⟩; obtain ⟨z, rfl⟩ := Bl.on hz; clear hz) | (go_at_call 12; refine (HFW.out _).mono ?_; rintro e z ⟨fx, rfl, hz⟩; obtain ⟨z, rfl⟩ := Bl.on hz; clear hz; refine Hid.out ?_))
  refine Lib.hid ?_
  cases fx
  all_goals
   go_wp2
   go_ret
   exact ⟨rfl, Below.step HB.out (Bl.prop _)⟩
 | false =>
  cases q6 : decide ((C.clauses.length : Int) ≤ k) with
  | true =>
   go_wp2_with (first | (go_at_call 11; refine (HH.out _).mono ?_; rintro e z ⟨rfl, hz⟩; obtain ⟨z, rfl⟩ := Bl.on hz; clear hz) | (go_at_call 12; refine (HFW.out _).mono ?_; rintro e z ⟨fx, rfl, hz⟩; obtain ⟨z, rfl⟩ := Bl.on hz; clear hz; refine Hid.out ?_))
   refine Lib.hid ?_
   cases fx
   all_goals
    go_wp2
    go_ret
    exact ⟨rfl, Below.step HB.out (Bl.prop _)⟩
  | false =>
   have hk0 : 0 ≤ k := by rw [decide_eq_false_iff_not] at q5; omega
   have hk1 : k < C.clauses.length := by rw [decide_eq_false_iff_not] at q6; omega
   go_wp2_with (first | (go_at_call 11; refine (HH.out _).mono ?_; rintro e z ⟨rfl, hz⟩; obtain ⟨z, rfl⟩ := Bl.on hz; clear hz) | (go_at_call 12; refine (HFW.out _).mono ?_; rintro e z ⟨fx, rfl, hz⟩; obtain ⟨z, rfl⟩ := Bl.on hz; clear hz; refine Hid.out ?_))
   refine Lib.hid ?_
   cases fx with
   | false =>
    go_wp2
    go_ret
    exact ⟨rfl, Below.step HB.out (Bl.prop _)⟩
   | true =>
    go_wp2_with (go_at_call 24; refine (HRU.out _).mono ?_; rintro e y1 ⟨sA, sc, R, e1, rfl, hb1, hc1⟩; obtain ⟨y1, rfl⟩ := Bl.on hb1; clear hb1; refine Hid.out ?_)
    refine Lib.hid ?_
    have HC1 := Lib.hid hc1; clear hc1
    go_wp2_with (go_at_call 25; refine (HVI.out _).mono ?_; rintro e y2 ⟨vA, vc, view, e2, rfl, hb2, hc2⟩; refine Hid.out ?_)
    refine Lib.hid ?_
    have HP1 : Hid (Below W0.heap.size W0 y2) := Below.step y1.prop hb2
    have HY := Lib.hid hb2
    have HC2 := Lib.hid hc2
    clear hb2 hc2
    cases q1 : (e1 == 0) with
    | false =>
     have q1n : ¬ (e1 = 0) := by rw [beq_eq_false_iff_ne] at q1; exact q1
     have q1b : (e1 != 0) = true := by simpa using q1n
     go_wp2
     go_ret
     exact ⟨rfl, Below.step HB.out HP1.out⟩
    | true =>
     obtain rfl : e1 = 0 := by rw [beq_iff_eq] at q1; exact q1
     obtain ⟨HG, HR, HRN⟩ : Hid (Good C l) ∧ Hid (R = C.trail l l.length) ∧ Hid (StatesAt y2 ⟨sA, sc⟩ R) := by
      rcases HC1.out with ⟨_, h2, h3, h4⟩ | ⟨h1, _⟩
      · exact ⟨h2, h3, h4.at.below HY.out⟩
      · exact absurd rfl h1
     clear q1 HC1 HRU HVI
     cases q2 : (e2 == 0) with
     | false =>
      have q2n : ¬ (e2 = 0) := by rw [beq_eq_false_iff_ne] at q2; exact q2
      have q2b : (e2 != 0) = true := by simpa using q2n
      go_wp2
      go_ret
      exact ⟨rfl, Below.step HB.out HP1.out⟩
     | true =>
      obtain rfl : e2 = 0 := by rw [beq_iff_eq] at q2; exact q2
      obtain ⟨HPA, HVW, HAT⟩ : Hid (0 ≤ p ∧ p < C.parties) ∧ Hid (view = viewTo C l [p] l.length) ∧ Hid (At y2 1 vA view.length vc (ints view)) := by
       rcases HC2.out with ⟨_, _, h3, h4, h5⟩ | ⟨h1, _⟩
       · exact ⟨h3, h4, h5⟩
       · exact absurd rfl h1
      clear q2 HC2 HY
      have HB1 : Hid (Below w.heap.size w y2) := Below.step HB.out HP1.out
      have k0 := kup HP1.out k0_0
      have k1 := kup HP1.out k0_1
      have k2 := kup HP1.out k0_2
      have k3 := kup HP1.out k0_3
      have k4 := kup HP1.out k0_4
      have k5 := kup HP1.out k0_5
      have k6 := kup HP1.out k0_6
      clear k0_0 k0_1 k0_2 k0_3 k0_4 k0_5 k0_6
      have HWA := Lib.hid (fun z : Bl y2 => watch_any (⟨⟨vhA, vhc⟩, ⟨vuA, vuc⟩, ⟨vaA, vac⟩, ⟨vkA, vkc⟩, ⟨voA, voc⟩⟩ : CV) C p ⟨vA, vc⟩ view z.val (HC.out.below (Below.step HB1.out z.prop)) (HAT.out.below (by omega) z.prop) (HT.out.below (Below.step HB1.out z.prop)))
      simp only [CV.val, CV.cells] at HWA
      obtain ⟨s1, hs1⟩ : ∃ s1 : Bl y2, s1.val = y2 := ⟨⟨y2, Below.refl _ _⟩, rfl⟩
      rw [← hs1]
      clear hs1
      have hrl : R.length = l.length + 1 := by rw [HR.out, trail_len]
      have x1 : ((R.length : Int) != (l.length : Int) + 1) = false := by rw [bne_eq_false_iff_eq]; omega
      have x2 : (l.length : Int) < (R.length : Int) := by omega
      have x3 : (l.length : Int) + 1 ≤ 9223372036854775807 := by have := HG.out.len; omega
      clear hrl
      go_wp2_with (go_at_call 18; refine (HWA.out _).mono ?_; rintro e z1 ⟨qq, A, c, r, er, rfl, hb1, hcase⟩; refine Hid.out ?_)
      refine Lib.hid ?_
      obtain ⟨zb, HZB⟩ : ∃ zb : Bl y2, Hid (Below zb.val.heap.size zb.val z1 ∧ ((er = 0 ∧ qq = p ∧ StatesN zb.val.heap.size z1 ⟨A, c⟩ r ∧ WatchOk C p view r) ∨ (er ≠ 0 ∧ qq = 0 ∧ A = none ∧ c = 0 ∧ r = [] ∧ WatchEr C p view er))) := ⟨_, hb1, hcase⟩
      clear hb1 hcase HWA
      go_upto_region 9 with (fail)
      obtain ⟨W2, HW2⟩ : ∃ W2, Hid (W2 = z1.alloc (.cells #[.int .i64 qq, .slice A r.length c] 30)) := ⟨_, rfl⟩
      rw [← HW2.out]
      have hb2 : Below z1.heap.size z1 W2 := by rw [HW2.out]; exact Below.alloc' (Below.refl _ _) _
      have hx2 : W2.heap[z1.heap.size]? = some (.cells #[.int .i64 qq, .slice A r.length c] 30 (0, 0)) := by rw [HW2.out]; exact heap_alloc_new z1 _
      have HP2 : Hid (Below y2.heap.size y2 W2) := Below.step (Below.step zb.prop HZB.out.1) hb2
      have HB2 : Hid (Below w.heap.size w W2) := Below.step HB1.out HP2.out
      obtain ⟨d0, d1⟩ := kc2 hx2
      have m0 := kup HP2.out k0
      have m1 := kup HP2.out k1
      have m2 := kup HP2.out k2
      have m3 := kup HP2.out k3
      have m4 := kup HP2.out k4
      have m5 := kup HP2.out k5
      have m6 := kup HP2.out k6
      clear hx2 k0 k1 k2 k3 k4 k5 k6
      obtain ⟨s2, hs2⟩ : ∃ s2 : Bl W2, s2.val = W2 := ⟨⟨W2, Below.refl _ _⟩, rfl⟩
      rw [← hs2]
      clear hs2
      obtain ⟨HSN, HVV, HBV⟩ : Hid (StatesAt z1 ⟨A, c⟩ r) ∧ Hid (C.verdict ⟨qq, r⟩ k ≠ 0 → C.verdict ⟨qq, r⟩ k = meansI (statusAt (C.att l).marks k)) ∧ Hid (C.blames ⟨qq, r⟩ q ≠ 0 → C.blames ⟨qq, r⟩ q = blameI (C.breach (C.att l) q)) := by
       rcases HZB.out.2 with ⟨_, rfl, e3, e4⟩ | ⟨_, _, rfl, rfl, rfl, _⟩
       · have h1 := e4.2
         rw [HVW.out] at h1
         have h2 := truth HG.out HPA.out l.length r (Nat.le_refl _) h1
         rw [List.take_length] at h2
         exact ⟨e3.at, fun h => verdict_of h2 h, fun h => blames_of h2 h⟩
       · exact ⟨⟨[], rfl, at_nil _ _, fun i s t h => by simp at h⟩, fun h => absurd (verdict_none _ _ _) h, fun h => absurd (blames_none _ _ _) h⟩
      clear HZB
      have hrl : R.length = l.length + 1 := by rw [HR.out, trail_len]
      have HLS : Hid (R[l.length]? = some (C.att l)) := by show _ = _; rw [HR.out, trail_get (Nat.le_refl _), List.take_length]
      obtain ⟨b1, o1, hA1, hl1, hc1⟩ := HRN.out.form (by omega)
      try simp only at hA1
      subst hA1
      obtain ⟨⟨⟨shA, shc⟩, ⟨suA, suc⟩, ⟨smA, smc⟩⟩, hst, hcs⟩ := hc1 l.length _ HLS.out
      have HSL : Hid (∀ z : Bl W2, StateAt z.val (⟨⟨shA, shc⟩, ⟨suA, suc⟩, ⟨smA, smc⟩⟩ : TV) (C.att l)) := fun z => hst.below (Below.step HP2.out z.prop)
      generalize hls : C.att l = s at hcs HSL
      have HSS := Lib.hid hls
      have e0 : ∀ z : Bl W2, z.val.cell? ⟨b1, o1 + l.length * 4, none⟩ = some (.int .i64 s.day) := fun z => hcs z.val (Below.step HP2.out z.prop) 0 (by omega)
      have e1 : ∀ z : Bl W2, z.val.cell? ⟨b1, o1 + l.length * 4 + 1, none⟩ = some (.slice shA s.holders.length shc) := fun z => hcs z.val (Below.step HP2.out z.prop) 1 (by omega)
      have e2 : ∀ z : Bl W2, z.val.cell? ⟨b1, o1 + l.length * 4 + 2, none⟩ = some (.slice suA s.used.length suc) := fun z => hcs z.val (Below.step HP2.out z.prop) 2 (by omega)
      have e3 : ∀ z : Bl W2, z.val.cell? ⟨b1, o1 + l.length * 4 + 3, none⟩ = some (.slice smA s.marks.length smc) := fun z => hcs z.val (Below.step HP2.out z.prop) 3 (by omega)
      clear hl1 hc1 hst hcs hls
      rw [HSS.out] at HVV HBV
      have HSO : Hid (StateOk C s) := by have := HG.out.ok l.length (Nat.le_refl _); rw [List.take_length, HSS.out] at this; exact this
      obtain ⟨kn, hkn⟩ : ∃ kn : Nat, k = kn := ⟨k.toNat, by omega⟩
      subst hkn
      obtain ⟨m, hm⟩ : ∃ m, s.marks[kn]? = some m := ⟨s.marks[kn]'(by rw [HSO.out.lm]; omega), List.getElem?_eq_getElem _⟩
      have hstm : statusAt s.marks kn = m.status := by unfold statusAt; rw [Int.toNat_natCast, hm]; rfl
      rw [hstm] at HVV
      obtain ⟨mb, mo, hmA, _, hmc⟩ := (HSL.out ⟨W2, Below.refl _ _⟩).mark hm
      try simp only at hmA
      subst hmA
      have HMC : Hid (∀ z : Bl W2, z.val.cell? ⟨mb, mo + kn * 5, none⟩ = some (.int .i64 m.status)) := fun z => hmc kn m hm z.val z.prop 0 (by omega)
      clear hmc hstm hm
      have HVD := Lib.hid (fun z : Bl W2 => verdict_any (⟨⟨vhA, vhc⟩, ⟨vuA, vuc⟩, ⟨vaA, vac⟩, ⟨vkA, vkc⟩, ⟨voA, voc⟩⟩ : CV) C ⟨A, c⟩ ⟨qq, r⟩ kn z.val (HC.out.below (Below.step HB2.out z.prop)) (HSN.out.below (Below.step hb2 z.prop)))
      have HBD := Lib.hid (fun z : Bl W2 => blames_any (⟨⟨vhA, vhc⟩, ⟨vuA, vuc⟩, ⟨vaA, vac⟩, ⟨vkA, vkc⟩, ⟨voA, voc⟩⟩ : CV) C ⟨A, c⟩ ⟨qq, r⟩ q z.val (HC.out.below (Below.step HB2.out z.prop)) (HSN.out.below (Below.step hb2 z.prop)))
      simp only [CV.val, CV.cells] at HVD HBD
      generalize C.verdict ⟨qq, r⟩ kn = vv at HVD HVV
      generalize C.blames ⟨qq, r⟩ q = ww at HBD HBV
      clear hb2 hrl
      go_wp2_with (first | (go_at_call 13; refine (HVD.out _).mono ?_; rintro e z ⟨rfl, hz⟩; obtain ⟨z, rfl⟩ := Bl.on hz; clear hz) | (go_at_call 15; refine (HBD.out _).mono ?_; rintro e z ⟨rfl, hz⟩; obtain ⟨z, rfl⟩ := Bl.on hz; clear hz; refine Hid.out ?_))
      refine Lib.hid ?_
      clear HVD HBD
      go_upto_region 12 with (fail)
      obtain ⟨W3, HW3⟩ : ∃ W3, Hid (W3 = z.val.alloc (.cells #[.int .i64 s.day, .slice shA s.holders.length shc, .slice suA s.used.length suc, .slice (some ⟨mb, mo, none⟩) s.marks.length smc] 43)) := ⟨_, rfl⟩
      rw [← HW3.out]
      have hb3 : Below z.val.heap.size z.val W3 := by rw [HW3.out]; exact Below.alloc' (Below.refl _ _) _
      have hx3 : W3.heap[z.val.heap.size]? = some (.cells #[.int .i64 s.day, .slice shA s.holders.length shc, .slice suA s.used.length suc, .slice (some ⟨mb, mo, none⟩) s.marks.length smc] 43 (0, 0)) := by rw [HW3.out]; exact heap_alloc_new z.val _
      have HP3 : Hid (Below W2.heap.size W2 W3) := Below.step z.prop hb3
      have HB3 : Hid (Below w.heap.size w W3) := Below.step HB2.out HP3.out
      generalize z.val.heap.size = bs at hx3
      obtain ⟨t0, t1, t2, t3⟩ := kc4 hx3
      have n0 := kup HP3.out m0
      have n1 := kup HP3.out m1
      have n2 := kup HP3.out m2
      have n3 := kup HP3.out m3
      have n4 := kup HP3.out m4
      have n5 := kup HP3.out m5
      have n6 := kup HP3.out m6
      have cm : ∀ z : Bl W3, z.val.cell? ⟨mb, mo + kn * 5, none⟩ = some (.int .i64 m.status) := fun z => HMC.out ⟨z.val, Below.step HP3.out z.prop⟩
      have HBR := Lib.hid (fun z : Bl W3 => breach_any (⟨⟨vhA, vhc⟩, ⟨vuA, vuc⟩, ⟨vaA, vac⟩, ⟨vkA, vkc⟩, ⟨voA, voc⟩⟩ : CV) C (⟨⟨shA, shc⟩, ⟨suA, suc⟩, ⟨some ⟨mb, mo, none⟩, smc⟩⟩ : TV) s q z.val (HC.out.below (Below.step HB3.out z.prop)) (HSL.out ⟨z.val, Below.step HP3.out z.prop⟩))
      simp only [CV.val, CV.cells, TV.val, TV.cells, KState.cells] at HBR
      have HME := Lib.hid (fun z : Bl W3 => means_any m.status z.val)
      have x4 : ((s.marks.length : Int) != (C.clauses.length : Int)) = false := by rw [bne_eq_false_iff_eq, HSO.out.lm]
      have x5 : (kn : Int) < (s.marks.length : Int) := by rw [HSO.out.lm]; omega
      have hmx : s.marks.length ≤ 9223372036854775807 := by rw [HSO.out.lm]; exact hkx
      obtain ⟨s3, hs3⟩ : ∃ s3 : Bl W3, s3.val = W3 := ⟨⟨W3, Below.refl _ _⟩, rfl⟩
      rw [← hs3]
      clear hs3 hx3 hb3
      have FIN : ∀ (P : Prop), P → P := fun _ h => h
      clear FIN
      rcases Decidable.em (ww = 0) with hw0 | hw0
      · subst hw0
        rcases Decidable.em (vv = 0) with hv0 | hv0
        · subst hv0
          go_wp2_with (first | (go_at_call 27; refine (HBR.out _).mono ?_; rintro e z ⟨rfl, hz⟩; obtain ⟨z, rfl⟩ := Bl.on hz; clear hz))
          go_ret
          exact ⟨rfl, Below.step HB3.out (Bl.prop _)⟩
        · have HVQ := Lib.hid (HVV.out hv0)
          rw [← HVQ.out] at HME
          have y1 : (vv == 0) = false := by rw [beq_eq_false_iff_ne]; exact hv0
          clear HVV HVQ
          go_wp2_with (first | (go_at_call 26; refine (HME.out _).mono ?_; rintro e z ⟨rfl, hz⟩; obtain ⟨z, rfl⟩ := Bl.on hz; clear hz) | (go_at_call 27; refine (HBR.out _).mono ?_; rintro e z ⟨rfl, hz⟩; obtain ⟨z, rfl⟩ := Bl.on hz; clear hz))
          go_ret
          exact ⟨rfl, Below.step HB3.out (Bl.prop _)⟩
      · have HW := Lib.hid (HBV.out hw0)
        cases hbr : C.breach s q with
        | true =>
         rw [hbr] at HBR
         obtain rfl : ww = 3 := by rw [HW.out, hbr]; rfl
         clear hw0 HW HBV
         rcases Decidable.em (vv = 0) with hv0 | hv0
         · subst hv0
           go_wp2_with (first | (go_at_call 27; refine (HBR.out _).mono ?_; rintro e z ⟨rfl, hz⟩; obtain ⟨z, rfl⟩ := Bl.on hz; clear hz))
           go_ret
           exact ⟨rfl, Below.step HB3.out (Bl.prop _)⟩
         · have HVQ := Lib.hid (HVV.out hv0)
           rw [← HVQ.out] at HME
           have y1 : (vv == 0) = false := by rw [beq_eq_false_iff_ne]; exact hv0
           clear HVV HVQ
           go_wp2_with (first | (go_at_call 26; refine (HME.out _).mono ?_; rintro e z ⟨rfl, hz⟩; obtain ⟨z, rfl⟩ := Bl.on hz; clear hz) | (go_at_call 27; refine (HBR.out _).mono ?_; rintro e z ⟨rfl, hz⟩; obtain ⟨z, rfl⟩ := Bl.on hz; clear hz))
           go_ret
           exact ⟨rfl, Below.step HB3.out (Bl.prop _)⟩
        | false =>
         rw [hbr] at HBR
         obtain rfl : ww = 2 := by rw [HW.out, hbr]; rfl
         clear hw0 HW HBV
         rcases Decidable.em (vv = 0) with hv0 | hv0
         · subst hv0
           go_wp2_with (first | (go_at_call 27; refine (HBR.out _).mono ?_; rintro e z ⟨rfl, hz⟩; obtain ⟨z, rfl⟩ := Bl.on hz; clear hz))
           go_ret
           exact ⟨rfl, Below.step HB3.out (Bl.prop _)⟩
         · have HVQ := Lib.hid (HVV.out hv0)
           rw [← HVQ.out] at HME
           have y1 : (vv == 0) = false := by rw [beq_eq_false_iff_ne]; exact hv0
           clear HVV HVQ
           go_wp2_with (first | (go_at_call 26; refine (HME.out _).mono ?_; rintro e z ⟨rfl, hz⟩; obtain ⟨z, rfl⟩ := Bl.on hz; clear hz) | (go_at_call 27; refine (HBR.out _).mono ?_; rintro e z ⟨rfl, hz⟩; obtain ⟨z, rfl⟩ := Bl.on hz; clear hz))
           go_ret
           exact ⟨rfl, Below.step HB3.out (Bl.prop _)⟩
end Go.Proofs.YtaielhafpmjkaaaGreatDoor
