/-
  Own
-/
import Derived.Test.YtaielhafpmjkaaaGreatDoorQ41
import Derived.Test.YtaielhafpmjkaaaGreatDoorQ12
import Derived.Test.YtaielhafpmjkaaaGreatDoorQ36
namespace Go.Proofs.YtaielhafpmjkaaaGreatDoor
open Go.RowKit Go.Shelf
theorem kupL {W W' : World} {g i : Nat} {u : Value} (hp : Below W.heap.size W W') (k : ∀ z : Bl W, z.val.cell? ⟨g, i, none⟩ = some u) : ∀ z : Bl W', z.val.cell? ⟨g, i, none⟩ = some u := fun z => k ⟨z.val, Below.step hp z.prop⟩
def mineB (C : KCon) (p ro tg : Int) : Bool := (cond (((!(decide (tg < 0))) && ((decide (tg < (C.holders.length : Int))) && (holderAt C.holders tg == p))) || ((!(decide (ro < 0))) && ((decide (ro < (C.holders.length : Int))) && (holderAt C.holders ro == p)))) true (decide (tg < 0)))
def asgB (ki : Int) : Bool := (ki == 2) || (ki == 3)
theorem assigns_any (ki ro gi tg un ln ld : Int) (w : World) : Calls Tryz.prog 31 #[.agg #[.int .i64 ki, .int .i64 ro, .int .i64 gi, .int .i64 tg, .int .i64 un, .int .i64 ln, .int .i64 ld]] w (RetB (.bool (asgB ki)) w) := by
 unfold asgB
 cases h2 : (ki == 2) <;> cases h3 : (ki == 3)
 all_goals
  go_enter Tryz.func31, Tryz.ntmps31
  go_wp2
  go_ret
  refine ⟨rfl, ?_⟩
  first | exact Below.refl _ _ | exact Below.alloc' (Below.refl _ _) _
theorem okAct_kind {C : KCon} {a : KAct} (h : C.okAct a = true) (hk : asgB a.kind = false) : a.kind = 1 ∧ (a.tgt < 0 → a.tgt = -1) := by
 unfold KCon.okAct okActB at h
 unfold asgB at hk
 cases h1 : (a.kind == 1) with
 | false =>
  rw [h1, hk] at h
  cases h2 : C.role a.role <;> simp [h2] at h
 | true =>
  rw [beq_iff_eq] at h1
  refine ⟨h1, fun ht => ?_⟩
  have hr : C.role a.tgt = false := by
   unfold KCon.role
   rw [show decide (0 ≤ a.tgt) = false by rw [decide_eq_false_iff_not]; omega, Bool.false_and]
  cases h3 : (a.tgt == -1) with
  | true => rw [beq_iff_eq] at h3; exact h3
  | false =>
   rw [h3, hr] at h
   cases h2 : C.role a.role <;> simp [h2, h1] at h
theorem own_sees {C : KCon} {p : Int} (hv : C.valid = true) (hp : 0 ≤ p ∧ p < C.parties) (h : ∀ a ∈ C.acts, asgB a.kind = false ∧ mineB C p a.role a.tgt = true) : Sees C p (fun s => s.holders = C.holders) := by
 have kd : ∀ a ∈ C.acts, a.kind = 1 ∧ (a.tgt < 0 → a.tgt = -1) := fun a ha => okAct_kind ((KCon.ok hv).acts a ha) (h a ha).1
 refine ⟨rfl, fun s x hs he => ?_, fun s i hs hO hi => ?_⟩
 · obtain ⟨_, _, hst, _⟩ := stepErr_zero he
   rcases hst with rfl | ⟨e0, e1⟩
   · exact hs
   · obtain ⟨i, rfl⟩ : ∃ i : Nat, x = i := ⟨x.toNat, by omega⟩
     obtain ⟨a, ha⟩ : ∃ a, C.acts[i]? = some a := ⟨C.acts[i]'(by omega), List.getElem?_eq_getElem _⟩
     rw [next_act ha]
     have hk : (a.kind != 1) = false := by rw [bne_eq_false_iff_eq]; exact (kd a (List.mem_of_getElem? ha)).1
     unfold KCon.act
     simp only [hk, Bool.false_and, cond_false]
     exact hs
 · obtain ⟨a, ha⟩ : ∃ a, C.acts[i]? = some a := ⟨C.acts[i], List.getElem?_eq_getElem hi⟩
   rw [sees_eq hO ha hp.1 hp.2]
   have hm := (h a (List.mem_of_getElem? ha)).2
   obtain ⟨hk, ht⟩ := kd a (List.mem_of_getElem? ha)
   unfold seesK seesB
   rw [hs, hk]
   unfold mineB at hm
   cases q1 : decide (a.tgt < 0) with
   | true =>
    rw [decide_eq_true_eq] at q1
    rw [ht q1]
    rfl
   | false =>
    cases q2 : (holderAt C.holders a.tgt == p) with
    | true => simp
    | false =>
     rw [q1, q2] at hm
     simp only [Bool.and_false, Bool.false_or, Bool.not_false] at hm
     cases q4 : decide (a.role < 0) with
     | true => rw [q4] at hm; simp at hm
     | false =>
      cases q6 : (holderAt C.holders a.role == p) with
      | false => rw [q6] at hm; simp at hm
      | true =>
       have : (a.role == -1) = false := by rw [decide_eq_false_iff_not] at q4; rw [beq_eq_false_iff_ne]; omega
       simp [this]
set_option maxRecDepth 100000 in
set_option maxHeartbeats 4000000 in
theorem own_walk (v : CV) (C : KCon) (lv : SV) (l : List Int) (p : Int) (w : World) (hC : ConAt w v C) (hV : At w 1 lv.A l.length lv.c (ints l)) (hT : Tab w) : Calls Tryz.prog 10 #[v.val C, .slice lv.A l.length lv.c, .int .i64 p] w (RetB (.bool true) w) := by
 obtain ⟨⟨vhA, vhc⟩, ⟨vuA, vuc⟩, ⟨vaA, vac⟩, ⟨vkA, vkc⟩, ⟨voA, voc⟩⟩ := v
 obtain ⟨lA, lc⟩ := lv
 have hlx : l.length ≤ 9223372036854775807 := by have h1 := hV.2.2.1; have h2 := hV.2.2.2; unfold maxLen at h2; omega
 have HC := Lib.hid hC; clear hC
 have HL := Lib.hid hV; clear hV
 have HT := Lib.hid hT; clear hT
 have hax : C.acts.length ≤ 9223372036854775807 := by have h1 := HC.out.acts.2.2.1; have h2 := HC.out.acts.2.2.2; unfold maxLen at h2; omega
 have hhx : C.holders.length ≤ 9223372036854775807 := by have h1 := HC.out.holders.2.2.1; have h2 := HC.out.holders.2.2.2; unfold maxLen at h2; omega
 simp only [CV.val, CV.cells]
 go_enter Tryz.func10, Tryz.ntmps10
 go_upto_region 1 with (fail)
 generalize hW0 : World.alloc _ _ = W0
 obtain ⟨HB, hh0⟩ := bx1 hW0
 clear hW0
 obtain ⟨k0_0, k0_1, k0_2, k0_3, k0_4, k0_5, k0_6⟩ := kc7 hh0
 clear hh0
 change Code.wp _ _ _ _ (Bl.val (⟨W0, Below.refl _ _⟩ : Bl W0))
 generalize (⟨W0, Below.refl _ _⟩ : Bl W0) = s0
 have HH := Lib.hid (fun z : Bl W0 => head_any z.val (HT.out.below (Below.step HB.out z.prop)))
 have HFW := Lib.hid (fun z : Bl W0 => few_any (⟨⟨vhA, vhc⟩, ⟨vuA, vuc⟩, ⟨vaA, vac⟩, ⟨vkA, vkc⟩, ⟨voA, voc⟩⟩ : CV) C ⟨lA, lc⟩ l 0 ⟨none, 0⟩ [] z.val (HC.out.below (Below.step HB.out z.prop)) (HL.out.below (by omega) (Below.step HB.out z.prop)) ⟨[], rfl, at_nil _ _, fun i s t h => by simp at h⟩)
 simp only [CV.val, CV.cells] at HFW
 have HRU := Lib.hid (fun z : Bl W0 => run_any (⟨⟨vhA, vhc⟩, ⟨vuA, vuc⟩, ⟨vaA, vac⟩, ⟨vkA, vkc⟩, ⟨voA, voc⟩⟩ : CV) C ⟨lA, lc⟩ l z.val (HC.out.below (Below.step HB.out z.prop)) (HL.out.below (by omega) (Below.step HB.out z.prop)))
 simp only [CV.val, CV.cells] at HRU
 have HVI := Lib.hid (fun z : Bl W0 => view_any (⟨⟨vhA, vhc⟩, ⟨vuA, vuc⟩, ⟨vaA, vac⟩, ⟨vkA, vkc⟩, ⟨voA, voc⟩⟩ : CV) C ⟨lA, lc⟩ l p z.val (HC.out.below (Below.step HB.out z.prop)) (HL.out.below (by omega) (Below.step HB.out z.prop)))
 simp only [CV.val, CV.cells] at HVI
 go_wp2_with (first | (go_at_call 11; refine (HH.out _).mono ?_; rintro e z ⟨rfl, hz⟩; obtain ⟨z, rfl⟩ := Bl.on hz; clear hz) | (go_at_call 12; refine (HFW.out _).mono ?_; rintro e z ⟨fx, rfl, hz⟩; obtain ⟨z, rfl⟩ := Bl.on hz; clear hz; refine Hid.out ?_))
 refine Lib.hid ?_
 cases fx with
 | false =>
  go_wp2
  go_ret
  exact ⟨rfl, Below.step HB.out (Bl.prop _)⟩
 | true =>
  go_wp2
  go_loopg [8] C.acts.length (fun gk v8 wr => ∃ (i : Nat) (z : Bl W0), gk = C.acts.length - i ∧ i ≤ C.acts.length ∧ v8 = .int .i64 i ∧ wr = z.val ∧ Hid (∀ (j : Nat) (a : KAct), j < i → C.acts[j]? = some a → asgB a.kind = false ∧ mineB C p a.role a.tgt = true))
  case atStart => exact ⟨0, _, rfl, Nat.zero_le _, rfl, rfl, fun j a h => by omega⟩
  case round =>
   obtain ⟨i, zo, hgk, hi, rfl, rfl, HPRE⟩ := hrel
   have HGK := Lib.hid hgk; clear hgk
   by_cases hlt : i < C.acts.length
   · obtain ⟨a, ha⟩ : ∃ a, C.acts[i]? = some a := ⟨C.acts[i], List.getElem?_eq_getElem hlt⟩
     have HA := Lib.hid ha; clear ha
     obtain ⟨ab, ao, hAA, _, hac⟩ := (HC.out.below HB.out).act HA.out
     try simp only at hAA
     subst hAA
     obtain ⟨ki, ro, gi, tg, un, ⟨ln, ld⟩⟩ := a
     obtain ⟨a0, a1, a2, a3, a4, a5, a6⟩ := rz7 hac rfl
     clear hac
     have i1 : (i : Int) < (C.acts.length : Int) := by omega
     go_upto_region 8 with (fail)
     obtain ⟨Wa, HWa⟩ : ∃ Wa, Hid (Wa = zo.val.alloc (.cells #[.int .i64 ki, .int .i64 ro, .int .i64 gi, .int .i64 tg, .int .i64 un, .int .i64 ln, .int .i64 ld] 67)) := ⟨_, rfl⟩
     rw [← HWa.out]
     have hba : Below zo.val.heap.size zo.val Wa := by rw [HWa.out]; exact Below.alloc' (Below.refl _ _) _
     have hxa : Wa.heap[zo.val.heap.size]? = some (.cells #[.int .i64 ki, .int .i64 ro, .int .i64 gi, .int .i64 tg, .int .i64 un, .int .i64 ln, .int .i64 ld] 67 (0, 0)) := by rw [HWa.out]; exact heap_alloc_new zo.val _
     have HPa : Hid (Below W0.heap.size W0 Wa) := Below.step zo.prop hba
     obtain ⟨b0, b1, b2, b3, b4, b5, b6⟩ := Go.Proofs.YtaielhafpmjkaaaGreatDoor.kc7 hxa
     have k0 := kupL HPa.out k0_0
     have k1 := kupL HPa.out k0_1
     have k2 := kupL HPa.out k0_2
     have k3 := kupL HPa.out k0_3
     have k4 := kupL HPa.out k0_4
     have k5 := kupL HPa.out k0_5
     have k6 := kupL HPa.out k0_6
     have HAS := Lib.hid (fun z : Bl Wa => assigns_any ki ro gi tg un ln ld z.val)
     have HHC : Hid (∀ z : Bl Wa, ∀ j, j < C.holders.length → 0 < C.holders.length → True) := fun _ _ _ _ => trivial
     clear HHC
     obtain ⟨s1, hs1⟩ : ∃ s1 : Bl Wa, s1.val = Wa := ⟨⟨Wa, Below.refl _ _⟩, rfl⟩
     rw [← hs1]
     clear hs1 hxa hba a0 a1 a2 a3 a4 a5 a6
     cases hk : asgB ki with
     | true =>
      rw [hk] at HAS
      go_wp2_with (first | (go_at_call 31; refine (HAS.out _).mono ?_; rintro e z ⟨rfl, hz⟩; obtain ⟨z, rfl⟩ := Bl.on hz; clear hz))
      go_ret
      exact ⟨rfl, Below.step HB.out (Below.step HPa.out (Bl.prop _))⟩
     | false =>
      rw [hk] at HAS
      go_wp2_with (go_at_call 31; refine (HAS.out _).mono ?_; rintro e z ⟨rfl, hz⟩; obtain ⟨z, rfl⟩ := Bl.on hz; clear hz; refine Hid.out ?_)
      refine Lib.hid ?_
      by_cases hh0 : 0 < C.holders.length
      rotate_left
      · have HZ0 : Hid (∀ x : Int, ¬ (0 ≤ x ∧ x < (C.holders.length : Int))) := fun x h => by omega
        clear hh0
        cases q1 : (decide (tg < 0)) with
        | false =>
         have q1_c : 0 ≤ tg := by have h := q1; rw [decide_eq_false_iff_not] at h; omega
         cases q2 : (decide (tg < (C.holders.length : Int))) with
         | false =>
          have q2_c : ¬ (tg < (C.holders.length : Int)) := by have h := q2; rw [decide_eq_false_iff_not] at h; exact h
          cases q3 : (decide (ro < 0)) with
          | false =>
           have q3_c : 0 ≤ ro := by have h := q3; rw [decide_eq_false_iff_not] at h; omega
           cases q4 : (decide (ro < (C.holders.length : Int))) with
           | false =>
            have q4_c : ¬ (ro < (C.holders.length : Int)) := by have h := q4; rw [decide_eq_false_iff_not] at h; exact h
            have hP : mineB C p ro tg = false := by unfold mineB; rw [q1, q2, q3, q4]; rfl
            go_wp2
            go_ret
            exact ⟨rfl, Below.step HB.out (Below.step HPa.out (Bl.prop _))⟩
           | true =>
            exact absurd ⟨by assumption, by have h := q4; rw [decide_eq_true_eq] at h; exact h⟩ (HZ0.out ro)
          | true =>
           have q3_c : ¬ (0 ≤ ro) := by have h := q3; rw [decide_eq_true_eq] at h; omega
           have hP : mineB C p ro tg = false := by unfold mineB; rw [q1, q2, q3]; rfl
           go_wp2
           go_ret
           exact ⟨rfl, Below.step HB.out (Below.step HPa.out (Bl.prop _))⟩
         | true =>
          exact absurd ⟨by assumption, by have h := q2; rw [decide_eq_true_eq] at h; exact h⟩ (HZ0.out tg)
        | true =>
         have q1_c : ¬ (0 ≤ tg) := by have h := q1; rw [decide_eq_true_eq] at h; omega
         cases q2 : (decide (ro < 0)) with
         | false =>
          have q2_c : 0 ≤ ro := by have h := q2; rw [decide_eq_false_iff_not] at h; omega
          cases q3 : (decide (ro < (C.holders.length : Int))) with
          | false =>
           have q3_c : ¬ (ro < (C.holders.length : Int)) := by have h := q3; rw [decide_eq_false_iff_not] at h; exact h
           have hP : mineB C p ro tg = true := by unfold mineB; rw [q1, q2, q3]; rfl
           have HN : Hid (∀ (j : Nat) (a : KAct), j < i + 1 → C.acts[j]? = some a → asgB a.kind = false ∧ mineB C p a.role a.tgt = true) := fun j a hj ha => by
            by_cases e : j = i
            · subst e
              rw [HA.out] at ha
              cases ha
              exact ⟨hk, hP⟩
            · exact HPRE.out j a (by omega) ha
           go_wp2
           go_roundg (C.acts.length - (i + 1))
           case measure => have := HGK.out; omega
           case rel => exact ⟨i + 1, ⟨_, Below.step HPa.out (Bl.prop _)⟩, rfl, by omega, by go_num, rfl, HN⟩
          | true =>
           exact absurd ⟨by assumption, by have h := q3; rw [decide_eq_true_eq] at h; exact h⟩ (HZ0.out ro)
         | true =>
          have q2_c : ¬ (0 ≤ ro) := by have h := q2; rw [decide_eq_true_eq] at h; omega
          have hP : mineB C p ro tg = true := by unfold mineB; rw [q1, q2]; rfl
          have HN : Hid (∀ (j : Nat) (a : KAct), j < i + 1 → C.acts[j]? = some a → asgB a.kind = false ∧ mineB C p a.role a.tgt = true) := fun j a hj ha => by
           by_cases e : j = i
           · subst e
             rw [HA.out] at ha
             cases ha
             exact ⟨hk, hP⟩
           · exact HPRE.out j a (by omega) ha
          go_wp2
          go_roundg (C.acts.length - (i + 1))
          case measure => have := HGK.out; omega
          case rel => exact ⟨i + 1, ⟨_, Below.step HPa.out (Bl.prop _)⟩, rfl, by omega, by go_num, rfl, HN⟩
      · obtain ⟨hb0, ho0, hHA, _, hhc⟩ := (HC.out.below (Below.step HB.out HPa.out)).holders.1.form (by omega) (by omega)
        try simp only at hHA
        subst hHA
        have HHC : Hid (∀ (z : Bl Wa) (j : Nat), j < C.holders.length → z.val.cell? ⟨hb0, ho0 + j, none⟩ = (ints C.holders)[j]?) := fun z j hj => by
         have h1 := hhc j (by omega)
         rw [← h1]
         have hsome : Wa.cell? ⟨hb0, ho0 + j, none⟩ = some (.int .i64 C.holders[j]) := by rw [h1]; simp [ints, hj]
         rw [hsome]
         exact z.cell hsome
        clear hhc
        focus
         cases q1 : (decide (tg < 0))
         focus
          have q1_c : 0 ≤ tg := by have h := q1; rw [decide_eq_false_iff_not] at h; omega
          cases q2 : (decide (tg < (C.holders.length : Int)))
          focus
           have q2_c : ¬ (tg < (C.holders.length : Int)) := by have h := q2; rw [decide_eq_false_iff_not] at h; exact h
           cases q3 : (decide (ro < 0))
           focus
            have q3_c : 0 ≤ ro := by have h := q3; rw [decide_eq_false_iff_not] at h; omega
            cases q4 : (decide (ro < (C.holders.length : Int)))
            focus
             have q4_c : ¬ (ro < (C.holders.length : Int)) := by have h := q4; rw [decide_eq_false_iff_not] at h; exact h
             have hP : mineB C p ro tg = false := by unfold mineB; rw [q1, q2, q3, q4]; rfl
             go_wp2
             go_ret
             exact ⟨rfl, Below.step HB.out (Below.step HPa.out (Bl.prop _))⟩
            focus
             have q4_c : ro < (C.holders.length : Int) := by have h := q4; rw [decide_eq_true_eq] at h; exact h
             have cc_ro : ∀ z : Bl Wa, z.val.cell? ⟨hb0, ho0 + ro.toNat, none⟩ = some (.int .i64 (holderAt C.holders ro)) := fun z => by rw [HHC.out z _ (by omega)]; simp [ints, holderAt, show ro.toNat < C.holders.length by omega]
             cases q5 : (holderAt C.holders ro == p)
             focus
              have hP : mineB C p ro tg = false := by unfold mineB; rw [q1, q2, q3, q4, q5]; rfl
              go_wp2
              go_ret
              exact ⟨rfl, Below.step HB.out (Below.step HPa.out (Bl.prop _))⟩
             focus
              have hP : mineB C p ro tg = true := by unfold mineB; rw [q1, q2, q3, q4, q5]; rfl
              have HN : Hid (∀ (j : Nat) (a : KAct), j < i + 1 → C.acts[j]? = some a → asgB a.kind = false ∧ mineB C p a.role a.tgt = true) := fun j a hj ha => by
               by_cases e : j = i
               · subst e
                 rw [HA.out] at ha
                 cases ha
                 exact ⟨hk, hP⟩
               · exact HPRE.out j a (by omega) ha
           rotate_left
           focus
            have q3_c : ¬ (0 ≤ ro) := by have h := q3; rw [decide_eq_true_eq] at h; omega
            have hP : mineB C p ro tg = false := by unfold mineB; rw [q1, q2, q3]; rfl
            go_wp2
            go_ret
            exact ⟨rfl, Below.step HB.out (Below.step HPa.out (Bl.prop _))⟩
          rotate_left
          focus
           have q2_c : tg < (C.holders.length : Int) := by have h := q2; rw [decide_eq_true_eq] at h; exact h
           have cc_tg : ∀ z : Bl Wa, z.val.cell? ⟨hb0, ho0 + tg.toNat, none⟩ = some (.int .i64 (holderAt C.holders tg)) := fun z => by rw [HHC.out z _ (by omega)]; simp [ints, holderAt, show tg.toNat < C.holders.length by omega]
           cases q3 : (holderAt C.holders tg == p)
           focus
            cases q4 : (decide (ro < 0))
            focus
             have q4_c : 0 ≤ ro := by have h := q4; rw [decide_eq_false_iff_not] at h; omega
             cases q5 : (decide (ro < (C.holders.length : Int)))
             focus
              have q5_c : ¬ (ro < (C.holders.length : Int)) := by have h := q5; rw [decide_eq_false_iff_not] at h; exact h
              have hP : mineB C p ro tg = false := by unfold mineB; rw [q1, q2, q3, q4, q5]; rfl
              go_wp2
              go_ret
              exact ⟨rfl, Below.step HB.out (Below.step HPa.out (Bl.prop _))⟩
             focus
              have q5_c : ro < (C.holders.length : Int) := by have h := q5; rw [decide_eq_true_eq] at h; exact h
              have cc_ro : ∀ z : Bl Wa, z.val.cell? ⟨hb0, ho0 + ro.toNat, none⟩ = some (.int .i64 (holderAt C.holders ro)) := fun z => by rw [HHC.out z _ (by omega)]; simp [ints, holderAt, show ro.toNat < C.holders.length by omega]
              cases q6 : (holderAt C.holders ro == p)
              focus
               have hP : mineB C p ro tg = false := by unfold mineB; rw [q1, q2, q3, q4, q5, q6]; rfl
               go_wp2
               go_ret
               exact ⟨rfl, Below.step HB.out (Below.step HPa.out (Bl.prop _))⟩
              focus
               have hP : mineB C p ro tg = true := by unfold mineB; rw [q1, q2, q3, q4, q5, q6]; rfl
               have HN : Hid (∀ (j : Nat) (a : KAct), j < i + 1 → C.acts[j]? = some a → asgB a.kind = false ∧ mineB C p a.role a.tgt = true) := fun j a hj ha => by
                by_cases e : j = i
                · subst e
                  rw [HA.out] at ha
                  cases ha
                  exact ⟨hk, hP⟩
                · exact HPRE.out j a (by omega) ha
            rotate_left
            focus
             have q4_c : ¬ (0 ≤ ro) := by have h := q4; rw [decide_eq_true_eq] at h; omega
             have hP : mineB C p ro tg = false := by unfold mineB; rw [q1, q2, q3, q4]; rfl
             go_wp2
             go_ret
             exact ⟨rfl, Below.step HB.out (Below.step HPa.out (Bl.prop _))⟩
           rotate_left
           focus
            have hP : mineB C p ro tg = true := by unfold mineB; rw [q1, q2, q3]; rfl
            have HN : Hid (∀ (j : Nat) (a : KAct), j < i + 1 → C.acts[j]? = some a → asgB a.kind = false ∧ mineB C p a.role a.tgt = true) := fun j a hj ha => by
             by_cases e : j = i
             · subst e
               rw [HA.out] at ha
               cases ha
               exact ⟨hk, hP⟩
             · exact HPRE.out j a (by omega) ha
         rotate_left 3
         focus
          have q1_c : ¬ (0 ≤ tg) := by have h := q1; rw [decide_eq_true_eq] at h; omega
          cases q2 : (decide (ro < 0))
          focus
           have q2_c : 0 ≤ ro := by have h := q2; rw [decide_eq_false_iff_not] at h; omega
           cases q3 : (decide (ro < (C.holders.length : Int)))
           focus
            have q3_c : ¬ (ro < (C.holders.length : Int)) := by have h := q3; rw [decide_eq_false_iff_not] at h; exact h
            have hP : mineB C p ro tg = true := by unfold mineB; rw [q1, q2, q3]; rfl
            have HN : Hid (∀ (j : Nat) (a : KAct), j < i + 1 → C.acts[j]? = some a → asgB a.kind = false ∧ mineB C p a.role a.tgt = true) := fun j a hj ha => by
             by_cases e : j = i
             · subst e
               rw [HA.out] at ha
               cases ha
               exact ⟨hk, hP⟩
             · exact HPRE.out j a (by omega) ha
           rotate_left
           focus
            have q3_c : ro < (C.holders.length : Int) := by have h := q3; rw [decide_eq_true_eq] at h; exact h
            have cc_ro : ∀ z : Bl Wa, z.val.cell? ⟨hb0, ho0 + ro.toNat, none⟩ = some (.int .i64 (holderAt C.holders ro)) := fun z => by rw [HHC.out z _ (by omega)]; simp [ints, holderAt, show ro.toNat < C.holders.length by omega]
            cases q4 : (holderAt C.holders ro == p)
            focus
             have hP : mineB C p ro tg = true := by unfold mineB; rw [q1, q2, q3, q4]; rfl
             have HN : Hid (∀ (j : Nat) (a : KAct), j < i + 1 → C.acts[j]? = some a → asgB a.kind = false ∧ mineB C p a.role a.tgt = true) := fun j a hj ha => by
              by_cases e : j = i
              · subst e
                rw [HA.out] at ha
                cases ha
                exact ⟨hk, hP⟩
              · exact HPRE.out j a (by omega) ha
            rotate_left
            focus
             have hP : mineB C p ro tg = true := by unfold mineB; rw [q1, q2, q3, q4]; rfl
             have HN : Hid (∀ (j : Nat) (a : KAct), j < i + 1 → C.acts[j]? = some a → asgB a.kind = false ∧ mineB C p a.role a.tgt = true) := fun j a hj ha => by
              by_cases e : j = i
              · subst e
                rw [HA.out] at ha
                cases ha
                exact ⟨hk, hP⟩
              · exact HPRE.out j a (by omega) ha
          rotate_left 3
          focus
           have q2_c : ¬ (0 ≤ ro) := by have h := q2; rw [decide_eq_true_eq] at h; omega
           have hP : mineB C p ro tg = true := by unfold mineB; rw [q1, q2]; rfl
           have HN : Hid (∀ (j : Nat) (a : KAct), j < i + 1 → C.acts[j]? = some a → asgB a.kind = false ∧ mineB C p a.role a.tgt = true) := fun j a hj ha => by
            by_cases e : j = i
            · subst e
              rw [HA.out] at ha
              cases ha
              exact ⟨hk, hP⟩
            · exact HPRE.out j a (by omega) ha
         all_goals
          go_wp2
          go_roundg (C.acts.length - (i + 1))
          case measure => have := HGK.out; omega
          case rel => exact ⟨i + 1, ⟨_, Below.step HPa.out (Bl.prop _)⟩, rfl, by omega, by go_num, rfl, HN⟩
   · obtain rfl : i = C.acts.length := by omega
     have HALL : Hid (∀ a ∈ C.acts, asgB a.kind = false ∧ mineB C p a.role a.tgt = true) := fun a ha => by
      obtain ⟨j, hj, rfl⟩ := List.mem_iff_getElem.1 ha
      exact HPRE.out j _ hj (List.getElem?_eq_getElem hj)
     clear HPRE HGK
     go_wp2_with (go_at_call 24; refine (HRU.out _).mono ?_; rintro e y1 ⟨sA, sc, R, e1, rfl, hb1, hc1⟩; obtain ⟨y1, rfl⟩ := Bl.on hb1; clear hb1; refine Hid.out ?_)
     refine Lib.hid ?_
     have HC1 := Lib.hid hc1; clear hc1
     go_wp2_with (go_at_call 25; refine (HVI.out _).mono ?_; rintro e y2 ⟨vA, vc, view, e2, rfl, hb2, hc2⟩; refine Hid.out ?_)
     refine Lib.hid ?_
     have HP1 : Hid (Below W0.heap.size W0 y2) := Below.step y1.prop hb2
     have HY := Lib.hid hb2
     have HC2 := Lib.hid hc2
     clear hb2 hc2
     cases q1 : (e1 == 0) with
     | false =>
      have q1n : ¬ (e1 = 0) := by rw [beq_eq_false_iff_ne] at q1; exact q1
      have q1b : (e1 != 0) = true := by simpa using q1n
      go_wp2
      go_ret
      exact ⟨rfl, Below.step HB.out HP1.out⟩
     | true =>
      obtain rfl : e1 = 0 := by rw [beq_iff_eq] at q1; exact q1
      obtain ⟨HG, HR, HRN⟩ : Hid (Good C l) ∧ Hid (R = C.trail l l.length) ∧ Hid (StatesAt y2 ⟨sA, sc⟩ R) := by
       rcases HC1.out with ⟨_, h2, h3, h4⟩ | ⟨h1, _⟩
       · exact ⟨h2, h3, h4.at.below HY.out⟩
       · exact absurd rfl h1
      clear q1 HC1 HRU HVI
      cases q2 : (e2 == 0) with
      | false =>
       have q2n : ¬ (e2 = 0) := by rw [beq_eq_false_iff_ne] at q2; exact q2
       have q2b : (e2 != 0) = true := by simpa using q2n
       go_wp2
       go_ret
       exact ⟨rfl, Below.step HB.out HP1.out⟩
      | true =>
       obtain rfl : e2 = 0 := by rw [beq_iff_eq] at q2; exact q2
       obtain ⟨HPA, HVW, HAT⟩ : Hid (0 ≤ p ∧ p < C.parties) ∧ Hid (view = viewTo C l [p] l.length) ∧ Hid (At y2 1 vA view.length vc (ints view)) := by
        rcases HC2.out with ⟨_, _, h3, h4, h5⟩ | ⟨h1, _⟩
        · exact ⟨h3, h4, h5⟩
        · exact absurd rfl h1
       clear q2 HC2 HY
       have HB1 : Hid (Below w.heap.size w y2) := Below.step HB.out HP1.out
       have k0 := kup HP1.out k0_0
       have k1 := kup HP1.out k0_1
       have k2 := kup HP1.out k0_2
       have k3 := kup HP1.out k0_3
       have k4 := kup HP1.out k0_4
       have k5 := kup HP1.out k0_5
       have k6 := kup HP1.out k0_6
       clear k0_0 k0_1 k0_2 k0_3 k0_4 k0_5 k0_6
       have HWA := Lib.hid (fun z : Bl y2 => watch_any (⟨⟨vhA, vhc⟩, ⟨vuA, vuc⟩, ⟨vaA, vac⟩, ⟨vkA, vkc⟩, ⟨voA, voc⟩⟩ : CV) C p ⟨vA, vc⟩ view z.val (HC.out.below (Below.step HB1.out z.prop)) (HAT.out.below (by omega) z.prop) (HT.out.below (Below.step HB1.out z.prop)))
       simp only [CV.val, CV.cells] at HWA
       have HSEE : Hid (Sees C p (fun s => s.holders = C.holders)) := own_sees HG.out.valid HPA.out HALL.out
       obtain ⟨s1, hs1⟩ : ∃ s1 : Bl y2, s1.val = y2 := ⟨⟨y2, Below.refl _ _⟩, rfl⟩
       rw [← hs1]
       clear hs1
       go_wp2_with (go_at_call 18; refine (HWA.out _).mono ?_; rintro e z1 ⟨qq, A, c, r, er, rfl, hb1, hcase⟩; refine Hid.out ?_)
       refine Lib.hid ?_
       obtain ⟨zb, HZB⟩ : ∃ zb : Bl y2, Hid (Below zb.val.heap.size zb.val z1 ∧ ((er = 0 ∧ qq = p ∧ StatesN zb.val.heap.size z1 ⟨A, c⟩ r ∧ WatchOk C p view r) ∨ (er ≠ 0 ∧ qq = 0 ∧ A = none ∧ c = 0 ∧ r = [] ∧ WatchEr C p view er))) := ⟨_, hb1, hcase⟩
       clear hb1 hcase HWA
       go_upto_region 20 with (fail)
       obtain ⟨W2, HW2⟩ : ∃ W2, Hid (W2 = z1.alloc (.cells #[.int .i64 qq, .slice A r.length c] 30)) := ⟨_, rfl⟩
       rw [← HW2.out]
       have hb2 : Below z1.heap.size z1 W2 := by rw [HW2.out]; exact Below.alloc' (Below.refl _ _) _
       have hx2 : W2.heap[z1.heap.size]? = some (.cells #[.int .i64 qq, .slice A r.length c] 30 (0, 0)) := by rw [HW2.out]; exact heap_alloc_new z1 _
       have HP2 : Hid (Below y2.heap.size y2 W2) := Below.step (Below.step zb.prop HZB.out.1) hb2
       have HB2 : Hid (Below w.heap.size w W2) := Below.step HB1.out HP2.out
       obtain ⟨d0, d1⟩ := kc2 hx2
       have m0 := kup HP2.out k0
       have m1 := kup HP2.out k1
       have m2 := kup HP2.out k2
       have m3 := kup HP2.out k3
       have m4 := kup HP2.out k4
       have m5 := kup HP2.out k5
       have m6 := kup HP2.out k6
       clear hx2 k0 k1 k2 k3 k4 k5 k6
       obtain ⟨s2, hs2⟩ : ∃ s2 : Bl W2, s2.val = W2 := ⟨⟨W2, Below.refl _ _⟩, rfl⟩
       rw [← hs2]
       clear hs2
       obtain ⟨H0, HQ, HSN, HOK⟩ : Hid (er = 0) ∧ Hid (qq = p) ∧ Hid (StatesAt z1 ⟨A, c⟩ r) ∧ Hid (Watched C p view r) := by
        rcases HZB.out.2 with ⟨e1, e2, e3, e4⟩ | ⟨_, _, _, _, _, e6⟩
        · exact ⟨e1, e2, e3.at, e4.2⟩
        · rw [HVW.out, HSEE.out.view HG.out l.length (Nat.le_refl _), List.take_length] at e6
          exact absurd e6 (HSEE.out.noErr HG.out HPA.out _)
       have h0 := H0.out
       have hq := HQ.out
       subst h0 hq
       clear H0 HQ HZB
       have hrl : R.length = l.length + 1 := by rw [HR.out, trail_len]
       have HLS : Hid (R[l.length]? = some (C.att l)) := by show _ = _; rw [HR.out, trail_get (Nat.le_refl _), List.take_length]
       obtain ⟨b1, o1, hA1, hl1, hc1⟩ := HRN.out.form (by omega)
       try simp only at hA1
       subst hA1
       obtain ⟨⟨⟨shA, shc⟩, ⟨suA, suc⟩, ⟨smA, smc⟩⟩, hst, hcs⟩ := hc1 l.length _ HLS.out
       have HSL : Hid (∀ z : Bl W2, StateAt z.val (⟨⟨shA, shc⟩, ⟨suA, suc⟩, ⟨smA, smc⟩⟩ : TV) (C.att l)) := fun z => hst.below (Below.step HP2.out z.prop)
       generalize hls : C.att l = s at hcs HSL
       have HSS := Lib.hid hls
       have e0 : ∀ z : Bl W2, z.val.cell? ⟨b1, o1 + l.length * 4, none⟩ = some (.int .i64 s.day) := fun z => hcs z.val (Below.step HP2.out z.prop) 0 (by omega)
       have e1 : ∀ z : Bl W2, z.val.cell? ⟨b1, o1 + l.length * 4 + 1, none⟩ = some (.slice shA s.holders.length shc) := fun z => hcs z.val (Below.step HP2.out z.prop) 1 (by omega)
       have e2 : ∀ z : Bl W2, z.val.cell? ⟨b1, o1 + l.length * 4 + 2, none⟩ = some (.slice suA s.used.length suc) := fun z => hcs z.val (Below.step HP2.out z.prop) 2 (by omega)
       have e3 : ∀ z : Bl W2, z.val.cell? ⟨b1, o1 + l.length * 4 + 3, none⟩ = some (.slice smA s.marks.length smc) := fun z => hcs z.val (Below.step HP2.out z.prop) 3 (by omega)
       clear hl1 hc1 hst hcs hls
       have hr1 : r = [s] := by
        have h1 := HOK.out
        have h2 := HSEE.out.view HG.out l.length (Nat.le_refl _)
        rw [HVW.out, h2] at h1
        have h3 := HSEE.out.alone HG.out l.length r (Nat.le_refl _) h1
        rw [List.take_length, HSS.out] at h3
        exact h3
       subst hr1
       obtain ⟨b2, o2, hA2, hl2, hc2⟩ := HSN.out.form (by simp)
       try simp only at hA2
       subst hA2
       obtain ⟨⟨⟨rhA, rhc⟩, ⟨ruA, ruc⟩, ⟨rmA, rmc⟩⟩, hrt, hrc⟩ := hc2 0 s rfl
       have y0 : ∀ z : Bl W2, z.val.cell? ⟨b2, o2, none⟩ = some (.int .i64 s.day) := fun z => by have h := hrc z.val (Below.step hb2 z.prop) 0 (by omega); simp only [Nat.zero_mul, Nat.add_zero] at h; exact h
       have y1 : ∀ z : Bl W2, z.val.cell? ⟨b2, o2 + 1, none⟩ = some (.slice rhA s.holders.length rhc) := fun z => by have h := hrc z.val (Below.step hb2 z.prop) 1 (by omega); simp only [Nat.zero_mul, Nat.add_zero] at h; exact h
       have y2 : ∀ z : Bl W2, z.val.cell? ⟨b2, o2 + 2, none⟩ = some (.slice ruA s.used.length ruc) := fun z => by have h := hrc z.val (Below.step hb2 z.prop) 2 (by omega); simp only [Nat.zero_mul, Nat.add_zero] at h; exact h
       have y3 : ∀ z : Bl W2, z.val.cell? ⟨b2, o2 + 3, none⟩ = some (.slice rmA s.marks.length rmc) := fun z => by have h := hrc z.val (Below.step hb2 z.prop) 3 (by omega); simp only [Nat.zero_mul, Nat.add_zero] at h; exact h
       have HSA := Lib.hid (fun z : Bl W2 => same_any (⟨⟨rhA, rhc⟩, ⟨ruA, ruc⟩, ⟨rmA, rmc⟩⟩ : TV) (⟨⟨shA, shc⟩, ⟨suA, suc⟩, ⟨smA, smc⟩⟩ : TV) s s z.val (hrt.below (Below.step hb2 z.prop)) (HSL.out z))
       simp only [TV.val, TV.cells, KState.cells] at HSA
       rw [eqB_self] at HSA
       simp only [List.length_cons, List.length_nil, Nat.zero_add] at d1
       have x1 : ((R.length : Int) == (l.length : Int) + 1) = true := by rw [beq_iff_eq]; omega
       have x2 : (l.length : Int) < (R.length : Int) := by omega
       have x3 : (l.length : Int) + 1 ≤ 9223372036854775807 := by have := HG.out.len; omega
       clear hb2 hrl hc2 hrc hrt hl2
       go_wp2_with fail
       refine wp_region_bl (by kernel_rfl) (by kernel_rfl) ?_
       repeat (go_big_quiet_step ((first | (go_at_call 30; exact Calls.bl_of (HSA.out _)))))
       refine wpQuiet_nil ?_
       rintro _ ⟨zq, rfl⟩
       go_wp2
       go_ret
       exact ⟨rfl, Below.step HB2.out (Bl.prop _)⟩
end Go.Proofs.YtaielhafpmjkaaaGreatDoor
