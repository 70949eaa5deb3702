/-
  Views
-/
import Derived.Test.YtaielhafpmjkaaaGreatDoorQ41
import Derived.Test.YtaielhafpmjkaaaGreatDoorQ43
import Derived.Test.YtaielhafpmjkaaaGreatDoorQ36
namespace Go.Proofs.YtaielhafpmjkaaaGreatDoor
open Go.RowKit Go.Shelf
structure HasIn (W : World) (b : List KState) (d : Int) (hA : Option Addr) (hn hc : Nat) (uA : Option Addr) (un uc : Nat) (mA : Option Addr) (mn mc : Nat) : Prop where
 mk ::
 ex : ∃ (s : KState) (tv : TV), d = s.day ∧ (hA = tv.h.A ∧ hn = s.holders.length ∧ hc = tv.h.c) ∧ (uA = tv.u.A ∧ un = s.used.length ∧ uc = tv.u.c) ∧ (mA = tv.m.A ∧ mn = s.marks.length ∧ mc = tv.m.c) ∧ StateAt W tv s ∧ s ∈ b
theorem HasIn.calls {W : World} {b : List KState} {d : Int} {hA : Option Addr} {hn hc : Nat} {uA : Option Addr} {un uc : Nat} {mA : Option Addr} {mn mc : Nat} (h : HasIn W b d hA hn hc uA un uc mA mn mc) (p : Int) (sv : SV) (z : Bl W) (hS : StatesAt z.val sv b) : Calls Tryz.prog 23 #[.agg #[.int .i64 p, .slice sv.A b.length sv.c], .agg #[.int .i64 d, .slice hA hn hc, .slice uA un uc, .slice mA mn mc]] z.val (RetB (.bool true) z.val) := by
 obtain ⟨s, tv, rfl, ⟨rfl, rfl, rfl⟩, ⟨rfl, rfl, rfl⟩, ⟨rfl, rfl, rfl⟩, h1, h2⟩ := h.ex
 have h3 := has_any p sv b tv s z.val hS (h1.below z.prop)
 rw [show hasB b s = true from hasB_iff.2 h2] at h3
 exact h3
set_option maxRecDepth 100000 in
set_option maxHeartbeats 4000000 in
theorem views_walk (v : CV) (C : KCon) (lv : SV) (l : List Int) (mv : SV) (m : List Int) (p : Int) (w : World) (hC : ConAt w v C) (hV : At w 1 lv.A l.length lv.c (ints l)) (hM : At w 1 mv.A m.length mv.c (ints m)) (hT : Tab w) : Calls Tryz.prog 8 #[v.val C, .slice lv.A l.length lv.c, .slice mv.A m.length mv.c, .int .i64 p] w (RetB (.bool true) w) := by
 obtain ⟨⟨vhA, vhc⟩, ⟨vuA, vuc⟩, ⟨vaA, vac⟩, ⟨vkA, vkc⟩, ⟨voA, voc⟩⟩ := v
 obtain ⟨lA, lc⟩ := lv
 have hlx : l.length ≤ 9223372036854775807 := by have h1 := hV.2.2.1; have h2 := hV.2.2.2; unfold maxLen at h2; omega
 have HC := Lib.hid hC; clear hC
 have HL := Lib.hid hV; clear hV
 have HT := Lib.hid hT; clear hT
 obtain ⟨mA, mc⟩ := mv
 have hmx : m.length ≤ 9223372036854775807 := by have h1 := hM.2.2.1; have h2 := hM.2.2.2; unfold maxLen at h2; omega
 have HLm := Lib.hid hM; clear hM
 simp only [CV.val, CV.cells]
 go_enter Tryz.func8, Tryz.ntmps8
 go_upto_region 1 with (fail)
 generalize hW0 : World.alloc _ _ = W0
 obtain ⟨HB, hh0⟩ := bx1 hW0
 clear hW0
 obtain ⟨k0_0, k0_1, k0_2, k0_3, k0_4, k0_5, k0_6⟩ := kc7 hh0
 clear hh0
 change Code.wp _ _ _ _ (Bl.val (⟨W0, Below.refl _ _⟩ : Bl W0))
 generalize (⟨W0, Below.refl _ _⟩ : Bl W0) = s0
 have HH := Lib.hid (fun z : Bl W0 => head_any z.val (HT.out.below (Below.step HB.out z.prop)))
 have HFW := Lib.hid (fun z : Bl W0 => few_any (⟨⟨vhA, vhc⟩, ⟨vuA, vuc⟩, ⟨vaA, vac⟩, ⟨vkA, vkc⟩, ⟨voA, voc⟩⟩ : CV) C ⟨lA, lc⟩ l 0 ⟨none, 0⟩ [] z.val (HC.out.below (Below.step HB.out z.prop)) (HL.out.below (by omega) (Below.step HB.out z.prop)) ⟨[], rfl, at_nil _ _, fun i s t h => by simp at h⟩)
 simp only [CV.val, CV.cells] at HFW
 have HVI := Lib.hid (fun z : Bl W0 => view_any (⟨⟨vhA, vhc⟩, ⟨vuA, vuc⟩, ⟨vaA, vac⟩, ⟨vkA, vkc⟩, ⟨voA, voc⟩⟩ : CV) C ⟨lA, lc⟩ l p z.val (HC.out.below (Below.step HB.out z.prop)) (HL.out.below (by omega) (Below.step HB.out z.prop)))
 simp only [CV.val, CV.cells] at HVI
 have HFWm := Lib.hid (fun z : Bl W0 => few_any (⟨⟨vhA, vhc⟩, ⟨vuA, vuc⟩, ⟨vaA, vac⟩, ⟨vkA, vkc⟩, ⟨voA, voc⟩⟩ : CV) C ⟨mA, mc⟩ m 0 ⟨none, 0⟩ [] z.val (HC.out.below (Below.step HB.out z.prop)) (HLm.out.below (by omega) (Below.step HB.out z.prop)) ⟨[], rfl, at_nil _ _, fun i s t h => by simp at h⟩)
 simp only [CV.val, CV.cells] at HFWm
 have HVIm := Lib.hid (fun z : Bl W0 => view_any (⟨⟨vhA, vhc⟩, ⟨vuA, vuc⟩, ⟨vaA, vac⟩, ⟨vkA, vkc⟩, ⟨voA, voc⟩⟩ : CV) C ⟨mA, mc⟩ m p z.val (HC.out.below (Below.step HB.out z.prop)) (HLm.out.below (by omega) (Below.step HB.out z.prop)))
 simp only [CV.val, CV.cells] at HVIm
 go_wp2_with (first | (go_at_call 11; refine (HH.out _).mono ?_; rintro e z ⟨rfl, hz⟩; obtain ⟨z, rfl⟩ := Bl.on hz; clear hz) | (go_at_call 12; refine (HFW.out _).mono ?_; rintro e z ⟨fx, rfl, hz⟩; obtain ⟨z, rfl⟩ := Bl.on hz; clear hz; refine Hid.out ?_))
 refine Lib.hid ?_
 cases fx with
 | false =>
  go_wp2
  go_ret
  exact ⟨rfl, Below.step HB.out (Bl.prop _)⟩
 | true =>
  go_wp2_with (go_at_call 12; refine (HFWm.out _).mono ?_; rintro e z ⟨fx, rfl, hz⟩; obtain ⟨z, rfl⟩ := Bl.on hz; clear hz; refine Hid.out ?_)
  refine Lib.hid ?_
  cases fx with
  | false =>
   go_wp2
   go_ret
   exact ⟨rfl, Below.step HB.out (Bl.prop _)⟩
  | true =>
   go_wp2_with (go_at_call 25; refine (HVI.out _).mono ?_; rintro e y1 ⟨vA, vc, view, e1, rfl, hb1, hc1⟩; obtain ⟨y1, rfl⟩ := Bl.on hb1; clear hb1; refine Hid.out ?_)
   refine Lib.hid ?_
   have HC1 := Lib.hid hc1; clear hc1
   go_wp2_with (go_at_call 25; refine (HVIm.out _).mono ?_; rintro e y2 ⟨uA, uc, view2, e2, rfl, hb2, hc2⟩; refine Hid.out ?_)
   refine Lib.hid ?_
   have HP1 : Hid (Below W0.heap.size W0 y2) := Below.step y1.prop hb2
   have HY := Lib.hid hb2
   have HC2 := Lib.hid hc2
   clear hb2 hc2
   cases q1 : (e1 == 0) with
   | false =>
    have q1n : ¬ (e1 = 0) := by rw [beq_eq_false_iff_ne] at q1; exact q1
    go_wp2
    go_ret
    exact ⟨rfl, Below.step HB.out HP1.out⟩
   | true =>
    obtain rfl : e1 = 0 := by rw [beq_iff_eq] at q1; exact q1
    obtain ⟨HGl, HPA, HVW, HAT⟩ : Hid (Good C l) ∧ Hid (0 ≤ p ∧ p < C.parties) ∧ Hid (view = viewTo C l [p] l.length) ∧ Hid (At y2 1 vA view.length vc (ints view)) := by
     rcases HC1.out with ⟨_, h2, h3, h4, h5⟩ | ⟨h1, _⟩
     · exact ⟨h2, h3, h4, h5.below (by omega) HY.out⟩
     · exact absurd rfl h1
    clear q1 HC1 HVI HVIm
    cases q2 : (e2 == 0) with
    | false =>
     have q2n : ¬ (e2 = 0) := by rw [beq_eq_false_iff_ne] at q2; exact q2
     go_wp2
     go_ret
     exact ⟨rfl, Below.step HB.out HP1.out⟩
    | true =>
     obtain rfl : e2 = 0 := by rw [beq_iff_eq] at q2; exact q2
     obtain ⟨HGm, HVW2, HAT2⟩ : Hid (Good C m) ∧ Hid (view2 = viewTo C m [p] m.length) ∧ Hid (At y2 1 uA view2.length uc (ints view2)) := by
      rcases HC2.out with ⟨_, h2, h3, h4, h5⟩ | ⟨h1, _⟩
      · exact ⟨h2, h4, h5⟩
      · exact absurd rfl h1
     clear q2 HC2 HY
     have HB1 : Hid (Below w.heap.size w y2) := Below.step HB.out HP1.out
     have k0 := kup HP1.out k0_0
     have k1 := kup HP1.out k0_1
     have k2 := kup HP1.out k0_2
     have k3 := kup HP1.out k0_3
     have k4 := kup HP1.out k0_4
     have k5 := kup HP1.out k0_5
     have k6 := kup HP1.out k0_6
     clear k0_0 k0_1 k0_2 k0_3 k0_4 k0_5 k0_6
     have HIT := Lib.hid (fun z : Bl y2 => ints_any ⟨vA, vc⟩ ⟨uA, uc⟩ view view2 z.val (HAT.out.below (by omega) z.prop) (HAT2.out.below (by omega) z.prop))
     have HWA := Lib.hid (fun z : Bl y2 => watch_any (⟨⟨vhA, vhc⟩, ⟨vuA, vuc⟩, ⟨vaA, vac⟩, ⟨vkA, vkc⟩, ⟨voA, voc⟩⟩ : CV) C p ⟨vA, vc⟩ view z.val (HC.out.below (Below.step HB1.out z.prop)) (HAT.out.below (by omega) z.prop) (HT.out.below (Below.step HB1.out z.prop)))
     simp only [CV.val, CV.cells] at HWA
     obtain ⟨s1, hs1⟩ : ∃ s1 : Bl y2, s1.val = y2 := ⟨⟨y2, Below.refl _ _⟩, rfl⟩
     rw [← hs1]
     clear hs1
     cases qe : eqB view view2 with
     | false =>
      rw [qe] at HIT
      go_wp2_with (first | (go_at_call 28; refine (HIT.out _).mono ?_; rintro e z ⟨rfl, hz⟩; obtain ⟨z, rfl⟩ := Bl.on hz; clear hz))
      go_ret
      exact ⟨rfl, Below.step HB1.out (Bl.prop _)⟩
     | true =>
      rw [qe] at HIT
      have HVE : Hid (view = viewTo C m [p] m.length) := (eqB_iff.1 qe).trans HVW2.out
      clear qe
      go_wp2_with (first | (go_at_call 28; refine (HIT.out _).mono ?_; rintro e z ⟨rfl, hz⟩; obtain ⟨z, rfl⟩ := Bl.on hz; clear hz) | (go_at_call 18; refine (HWA.out _).mono ?_; rintro e z1 ⟨qq, A, c, r, er, rfl, hb1, hcase⟩; refine Hid.out ?_))
      refine Lib.hid ?_
      obtain ⟨zb, HZB⟩ : ∃ zb : Bl y2, Hid (Below zb.val.heap.size zb.val z1 ∧ ((er = 0 ∧ qq = p ∧ StatesN zb.val.heap.size z1 ⟨A, c⟩ r ∧ WatchOk C p view r) ∨ (er ≠ 0 ∧ qq = 0 ∧ A = none ∧ c = 0 ∧ r = [] ∧ WatchEr C p view er))) := ⟨_, hb1, hcase⟩
      clear hb1 hcase HWA HIT
      go_upto_region 9 with (fail)
      obtain ⟨W2, HW2⟩ : ∃ W2, Hid (W2 = z1.alloc (.cells #[.int .i64 qq, .slice A r.length c] 30)) := ⟨_, rfl⟩
      rw [← HW2.out]
      have hb2 : Below z1.heap.size z1 W2 := by rw [HW2.out]; exact Below.alloc' (Below.refl _ _) _
      have hx2 : W2.heap[z1.heap.size]? = some (.cells #[.int .i64 qq, .slice A r.length c] 30 (0, 0)) := by rw [HW2.out]; exact heap_alloc_new z1 _
      have HP2 : Hid (Below y2.heap.size y2 W2) := Below.step (Below.step zb.prop HZB.out.1) hb2
      have HB2 : Hid (Below w.heap.size w W2) := Below.step HB1.out HP2.out
      obtain ⟨d0, d1⟩ := kc2 hx2
      have n0 := kup HP2.out k0
      have n1 := kup HP2.out k1
      have n2 := kup HP2.out k2
      have n3 := kup HP2.out k3
      have n4 := kup HP2.out k4
      have n5 := kup HP2.out k5
      have n6 := kup HP2.out k6
      clear hx2 k0 k1 k2 k3 k4 k5 k6
      have HRU := Lib.hid (fun z : Bl W2 => run_any (⟨⟨vhA, vhc⟩, ⟨vuA, vuc⟩, ⟨vaA, vac⟩, ⟨vkA, vkc⟩, ⟨voA, voc⟩⟩ : CV) C ⟨lA, lc⟩ l z.val (HC.out.below (Below.step HB2.out z.prop)) (HL.out.below (by omega) (Below.step HB2.out z.prop)))
      simp only [CV.val, CV.cells] at HRU
      have HRUm := Lib.hid (fun z : Bl W2 => run_any (⟨⟨vhA, vhc⟩, ⟨vuA, vuc⟩, ⟨vaA, vac⟩, ⟨vkA, vkc⟩, ⟨voA, voc⟩⟩ : CV) C ⟨mA, mc⟩ m z.val (HC.out.below (Below.step HB2.out z.prop)) (HLm.out.below (by omega) (Below.step HB2.out z.prop)))
      simp only [CV.val, CV.cells] at HRUm
      obtain ⟨s2, hs2⟩ : ∃ s2 : Bl W2, s2.val = W2 := ⟨⟨W2, Below.refl _ _⟩, rfl⟩
      rw [← hs2]
      clear hs2
      go_wp2_with (go_at_call 24; refine (HRU.out _).mono ?_; rintro e y3 ⟨sA, sc, R, e3, rfl, hb3, hc3⟩; obtain ⟨y3, rfl⟩ := Bl.on hb3; clear hb3; refine Hid.out ?_)
      refine Lib.hid ?_
      have HC3 := Lib.hid hc3; clear hc3
      go_wp2_with (go_at_call 24; refine (HRUm.out _).mono ?_; rintro e y4 ⟨tA, tc, R2, e4, rfl, hb4, hc4⟩; refine Hid.out ?_)
      refine Lib.hid ?_
      obtain ⟨h30, HRl, HRNl⟩ : e3 = 0 ∧ Hid (R = C.trail l l.length) ∧ Hid (StatesAt y4 ⟨sA, sc⟩ R) := by
       rcases HC3.out with ⟨h1, _, h3, h4⟩ | ⟨_, h1, _⟩
       · exact ⟨h1, h3, h4.at.below hb4⟩
       · exact absurd HGl.out h1
      obtain ⟨h40, HRm, HRNm⟩ : e4 = 0 ∧ Hid (R2 = C.trail m m.length) ∧ Hid (StatesAt y4 ⟨tA, tc⟩ R2) := by
       rcases hc4 with ⟨h1, _, h3, h4⟩ | ⟨_, h1, _⟩
       · exact ⟨h1, h3, h4.at⟩
       · exact absurd HGm.out h1
      subst h30 h40
      have HP4 : Hid (Below W2.heap.size W2 y4) := Below.step y3.prop hb4
      have HB4 : Hid (Below w.heap.size w y4) := Below.step HB2.out HP4.out
      clear HC3 hc4 hb4 HRU HRUm
      have g0 := kup HP4.out d0
      have g1 := kup HP4.out d1
      clear d0 d1
      obtain ⟨s4, hs4⟩ : ∃ s4 : Bl y4, s4.val = y4 := ⟨⟨y4, Below.refl _ _⟩, rfl⟩
      rw [← hs4]
      clear hs4
      by_cases h3 : er = 3
      · subst h3
        go_wp2
        go_ret
        exact ⟨rfl, Below.step HB4.out (Bl.prop _)⟩
      · obtain ⟨H0, HQ, HSN, HOK⟩ : Hid (er = 0) ∧ Hid (qq = p) ∧ Hid (StatesAt z1 ⟨A, c⟩ r) ∧ Hid (Watched C p view r) := by
         rcases HZB.out.2 with ⟨e1, e2, e3, e4⟩ | ⟨_, _, _, _, _, e6⟩
         · exact ⟨e1, e2, e3.at, e4.2⟩
         · rw [HVW.out] at e6
           exact absurd (watchEr_limit HGl.out HPA.out e6) h3
        have h0 := H0.out
        have hq := HQ.out
        subst h0 hq
        clear H0 HQ HZB h3
        have HS4 : Hid (∀ z : Bl y4, StatesAt z.val ⟨A, c⟩ r) := fun z => HSN.out.below (Below.step hb2 (Below.step HP4.out z.prop))
        have HINl : Hid (C.att l ∈ r) := by
         have h1 := HOK.out
         rw [HVW.out] at h1
         have h2 := truth HGl.out HPA.out l.length r (Nat.le_refl _) h1
         rw [List.take_length] at h2
         exact h2
        have HINm : Hid (C.att m ∈ r) := by
         have h1 := HOK.out
         rw [HVE.out] at h1
         have h2 := truth HGm.out HPA.out m.length r (Nat.le_refl _) h1
         rw [List.take_length] at h2
         exact h2
        have HDAY : Hid (∀ s ∈ r, s.day = ticks view) := watched_day HOK.out
        have hrll : R.length = l.length + 1 := by rw [HRl.out, trail_len]
        obtain ⟨b1, o1, hA1, hl1, hc1⟩ := HRNl.out.form (by omega)
        try simp only at hA1
        subst hA1
        obtain ⟨⟨⟨ahA, ahc⟩, ⟨auA, auc⟩, ⟨amA, amc⟩⟩, hst, hcs⟩ := hc1 l.length (C.att l) (by rw [HRl.out, trail_get (Nat.le_refl _), List.take_length])
        have esl : HasIn y4 r (C.att l).day ahA (C.att l).holders.length ahc auA (C.att l).used.length auc amA (C.att l).marks.length amc := ⟨⟨C.att l, (⟨⟨ahA, ahc⟩, ⟨auA, auc⟩, ⟨amA, amc⟩⟩ : TV), rfl, ⟨rfl, rfl, rfl⟩, ⟨rfl, rfl, rfl⟩, ⟨rfl, rfl, rfl⟩, hst, HINl.out⟩⟩
        generalize C.att l = sl at hcs esl
        obtain ⟨ae0, ae1, ae2, ae3⟩ := rz4 hcs rfl
        have x1l : ((R.length : Int) != (l.length : Int) + 1) = false := by rw [bne_eq_false_iff_eq]; omega
        have x2l : (l.length : Int) < (R.length : Int) := by omega
        have x3l : (l.length : Int) + 1 ≤ 9223372036854775807 := by have := HGl.out.len; omega
        clear hl1 hc1 hst hcs hrll
        have hrlm : R2.length = m.length + 1 := by rw [HRm.out, trail_len]
        obtain ⟨b3, o3, hA1, hl1, hc1⟩ := HRNm.out.form (by omega)
        try simp only at hA1
        subst hA1
        obtain ⟨⟨⟨bhA, bhc⟩, ⟨buA, buc⟩, ⟨bmA, bmc⟩⟩, hst, hcs⟩ := hc1 m.length (C.att m) (by rw [HRm.out, trail_get (Nat.le_refl _), List.take_length])
        have esm : HasIn y4 r (C.att m).day bhA (C.att m).holders.length bhc buA (C.att m).used.length buc bmA (C.att m).marks.length bmc := ⟨⟨C.att m, (⟨⟨bhA, bhc⟩, ⟨buA, buc⟩, ⟨bmA, bmc⟩⟩ : TV), rfl, ⟨rfl, rfl, rfl⟩, ⟨rfl, rfl, rfl⟩, ⟨rfl, rfl, rfl⟩, hst, HINm.out⟩⟩
        generalize C.att m = sm at hcs esm
        obtain ⟨be0, be1, be2, be3⟩ := rz4 hcs rfl
        have x1m : ((R2.length : Int) != (m.length : Int) + 1) = false := by rw [bne_eq_false_iff_eq]; omega
        have x2m : (m.length : Int) < (R2.length : Int) := by omega
        have x3m : (m.length : Int) + 1 ≤ 9223372036854775807 := by have := HGm.out.len; omega
        clear hl1 hc1 hst hcs hrlm
        have HHA : Hid (∀ (z : Bl y4) (d : Int) (hA : Option Addr) (hn hc : Nat) (uA : Option Addr) (un uc : Nat) (mA : Option Addr) (mn mc : Nat), HasIn y4 r d hA hn hc uA un uc mA mn mc → Calls Tryz.prog 23 #[.agg #[.int .i64 qq, .slice A r.length c], .agg #[.int .i64 d, .slice hA hn hc, .slice uA un uc, .slice mA mn mc]] z.val (RetB (.bool true) z.val)) := fun z d hA hn hc uA un uc mA mn mc h => h.calls qq ⟨A, c⟩ z (HS4.out z)
        have HCT := Lib.hid (fun z : Bl y4 => count_any ⟨vA, vc⟩ view z.val (HAT.out.below (by omega) (Below.step HP2.out (Below.step HP4.out z.prop))))
        generalize ticks view = tk at HCT HDAY
        clear hb2
        go_wp2_with fail
        refine wp_region_bl (by kernel_rfl) (by kernel_rfl) ?_
        repeat (go_big_quiet_step ((first | (go_at_call 23; exact Calls.bl_of (HHA.out _ _ _ _ _ _ _ _ _ _ _ (by first | exact esl | exact esm))))))
        refine wpQuiet_nil ?_
        rintro _ ⟨zq, rfl⟩
        go_wp2
        have hrx : r.length ≤ 9223372036854775807 := by obtain ⟨_, _, h, _⟩ := HSN.out; have h1 := h.2.2.1; have h2 := h.2.2.2; unfold maxLen at h2; omega
        go_loopg [20] r.length (fun gk v20 wr => ∃ (j : Nat) (z : Bl y4), gk = r.length - j ∧ j ≤ r.length ∧ v20 = .int .i64 j ∧ wr = z.val)
        case atStart => exact ⟨0, _, rfl, Nat.zero_le _, rfl, rfl⟩
        case round =>
         obtain ⟨j, zo, hgk, hj, rfl, rfl⟩ := hrel
         have HGK := Lib.hid hgk; clear hgk
         by_cases hlt : j < r.length
         · obtain ⟨s, hs⟩ : ∃ s, r[j]? = some s := ⟨r[j], List.getElem?_eq_getElem hlt⟩
           obtain ⟨b5, o5, hA5, _, hc5⟩ := (HS4.out ⟨y4, Below.refl _ _⟩).form (by omega)
           try simp only at hA5
           subst hA5
           obtain ⟨tv, _, hcs⟩ := hc5 j s hs
           have e0 : ∀ z : Bl y4, z.val.cell? ⟨b5, o5 + j * 4, none⟩ = some (.int .i64 tk) := fun z => by
            have h := hcs z.val z.prop 0 (by omega)
            rw [← HDAY.out s (List.mem_of_getElem? hs)]
            exact h
           clear hcs hc5 hs
           have j1 : (j : Int) < (r.length : Int) := by omega
           go_wp2_with fail
           refine wp_region_bl (by kernel_rfl) (by kernel_rfl) ?_
           repeat (go_big_quiet_step ((first | (go_at_call 29; exact Calls.bl_of (HCT.out _)))))
           refine wpQuiet_nil ?_
           rintro _ ⟨zq, rfl⟩
           go_wp2
           go_roundg (r.length - (j + 1))
           case measure => have := HGK.out; omega
           case rel => exact ⟨j + 1, _, rfl, by omega, by go_num, rfl⟩
         · obtain rfl : j = r.length := by omega
           go_wp2
           go_ret
           exact ⟨rfl, Below.step HB4.out (Bl.prop _)⟩
end Go.Proofs.YtaielhafpmjkaaaGreatDoor
