/-
  RefF; Gives
-/
import Derived.Test.YtaielhafpmjkaaaGreatDoorQ51
import Derived.Test.YtaielhafpmjkaaaGreatDoorQ11
import Derived.Test.YtaielhafpmjkaaaGreatDoorQ22
import Derived.Test.YtaielhafpmjkaaaGreatDoorQ36
namespace Go.Proofs.YtaielhafpmjkaaaGreatDoor
open Go.RowKit
def rGoodB (C : KCon) (pt : Int) (ss : List KState) : Bool := C.valid && (C.party pt && ((!decide ((ss.length : Int) < 1)) && (!decide (300 < (ss.length : Int)))))
theorem rGoodB_eq (C : KCon) (pt : Int) (ss : List KState) : (rGoodB C pt ss && allOk C ss) = C.okBelief ⟨pt, ss⟩ := by
 unfold rGoodB KCon.okBelief bv1 KCon.party
 simp only
 rw [show decide ((ss.length : Int) < 1) = ((ss.length : Int) == 0) by rw [Bool.eq_iff_iff, decide_eq_true_iff, beq_iff_eq]; omega, show decide (0 ≤ pt) = !decide (pt < 0) by rw [Bool.eq_iff_iff]; simp, show decide (pt < C.parties) = !decide (C.parties ≤ pt) by rw [Bool.eq_iff_iff]; simp]
 cases hv : C.valid with
 | true => cases decide (pt < 0) <;> cases decide (C.parties ≤ pt) <;> cases ((ss.length : Int) == 0) <;> cases decide (300 < (ss.length : Int)) <;> rfl
 | false =>
  cases ss with
  | nil => simp
  | cons s r =>
   have : allOk C (s :: r) = false := allOk_bad (j := 0) rfl (by unfold KCon.okState; rw [hv]; rfl)
   rw [this]
   simp
set_option maxRecDepth 100000 in
set_option maxHeartbeats 4000000 in
theorem rgood37_any (v : CV) (C : KCon) (sv : SV) (b : KBelief) (w : World) (hC : ConAt w v C) (hS : StatesAt w sv b.states) : Calls Tryz.prog 39 #[v.val C, .agg #[.int .i64 b.party, .slice sv.A b.states.length sv.c]] w (RetB (.bool (C.okBelief b)) w) := by
 obtain ⟨⟨vhA, vhc⟩, ⟨vuA, vuc⟩, ⟨vaA, vac⟩, ⟨vkA, vkc⟩, ⟨voA, voc⟩⟩ := v
 obtain ⟨bA, bc⟩ := sv
 obtain ⟨pt, ss⟩ := b
 simp only at hS ⊢
 obtain ⟨hlx1, hlx2⟩ := hS.len
 simp only at hlx1 hlx2
 have hlx : ss.length ≤ 9223372036854775807 := by omega
 have HC := Lib.hid hC; clear hC
 have HS := Lib.hid hS; clear hS
 simp only [CV.val, CV.cells]
 rw [← rGoodB_eq]
 generalize hE : (rGoodB C pt ss && allOk C ss) = E
 have HE := Lib.hid hE; clear hE
 go_enter Tryz.func39, Tryz.ntmps39
 go_upto_region 1 with (fail)
 generalize hW0 : World.alloc _ _ = W0
 obtain ⟨HB, hh0, hh1⟩ := bx2 hW0; clear hW0
 obtain ⟨k0_0, k0_1, k0_2, k0_3, k0_4, k0_5, k0_6⟩ := kc7 hh0
 clear hh0
 obtain ⟨k1_0, k1_1⟩ := kc2 hh1
 clear hh1
 change Code.wp _ _ _ _ (Bl.val (⟨W0, Below.refl _ _⟩ : Bl W0))
 generalize (⟨W0, Below.refl _ _⟩ : Bl W0) = s0
 have HRI := Lib.hid (fun z : Bl W0 => rright13_any (⟨⟨vhA, vhc⟩, ⟨vuA, vuc⟩, ⟨vaA, vac⟩, ⟨vkA, vkc⟩, ⟨voA, voc⟩⟩ : CV) C z.val (HC.out.below (Below.step HB.out z.prop)))
 simp only [CV.val, CV.cells] at HRI
 have HPA := Lib.hid (fun (x : Int) (z : Bl W0) => rparty_any (⟨⟨vhA, vhc⟩, ⟨vuA, vuc⟩, ⟨vaA, vac⟩, ⟨vkA, vkc⟩, ⟨voA, voc⟩⟩ : CV) C x z.val)
 simp only [CV.val, CV.cells] at HPA
 obtain ⟨b1, HP1, hE⟩ : ∃ b, Hid ((rGoodB C pt ss) = b) ∧ cond (rGoodB C pt ss) true false = b := ⟨_, rfl, (cd_self _).symm⟩
 simp only [rGoodB, cds] at hE
 repeat' (first | (replace hE := cd_t hE (by assumption)) | (replace hE := cd_f hE (by assumption)) | (replace hE := cd_eq hE; rcases hE with ⟨q, q', hE⟩ | ⟨q, q', hE⟩) | (replace hE := cd_any hE; rcases hE with ⟨q, hE⟩ | ⟨q, hE⟩) | fail)
 all_goals first
  | focus
   obtain rfl : b1 = false := hE.symm
   clear hE
   as_aux_lemma =>
    obtain rfl : E = false := by rw [← HE.out, HP1.out]; rfl
    go_wp2_with (first | (go_at_call 58; refine (lit (HRI.out _) (by assumption)).mono ?_; rintro e z ⟨rfl, hz⟩; obtain ⟨z, rfl⟩ := Bl.on hz; clear hz) | (go_at_call 58; refine (HRI.out _).mono ?_; rintro e z ⟨rfl, hz⟩; obtain ⟨z, rfl⟩ := Bl.on hz; clear hz) | (go_at_call 41; refine (lit (HPA.out _ _) (by assumption)).mono ?_; rintro e z ⟨rfl, hz⟩; obtain ⟨z, rfl⟩ := Bl.on hz; clear hz) | (go_at_call 41; refine (HPA.out _ _).mono ?_; rintro e z ⟨rfl, hz⟩; obtain ⟨z, rfl⟩ := Bl.on hz; clear hz))
    first
     | (go_ret; exact ⟨rfl, Below.step HB.out (Bl.prop _)⟩)
     | (refine wp_region_bl (by kernel_rfl) (by kernel_rfl) ?_; repeat (go_big_quiet_step (first | (go_at_call 58; exact Calls.bl_of (lit (HRI.out _) (by assumption))) | (go_at_call 58; exact Calls.bl_of (HRI.out _)) | (go_at_call 41; exact Calls.bl_of (lit (HPA.out _ _) (by assumption))) | (go_at_call 41; exact Calls.bl_of (HPA.out _ _)))); refine wpQuiet_nil ?_; rintro _ ⟨zq, rfl⟩; go_wp2_with (first | (go_at_call 58; refine (lit (HRI.out _) (by assumption)).mono ?_; rintro e z ⟨rfl, hz⟩; obtain ⟨z, rfl⟩ := Bl.on hz; clear hz) | (go_at_call 58; refine (HRI.out _).mono ?_; rintro e z ⟨rfl, hz⟩; obtain ⟨z, rfl⟩ := Bl.on hz; clear hz) | (go_at_call 41; refine (lit (HPA.out _ _) (by assumption)).mono ?_; rintro e z ⟨rfl, hz⟩; obtain ⟨z, rfl⟩ := Bl.on hz; clear hz) | (go_at_call 41; refine (HPA.out _ _).mono ?_; rintro e z ⟨rfl, hz⟩; obtain ⟨z, rfl⟩ := Bl.on hz; clear hz)); go_ret; exact ⟨rfl, Below.step HB.out (Bl.prop _)⟩)
  | focus
   obtain rfl : b1 = true := hE.symm
   clear hE
   as_aux_lemma =>
    go_wp2_with (first | (go_at_call 58; refine (lit (HRI.out _) (by assumption)).mono ?_; rintro e z ⟨rfl, hz⟩; obtain ⟨z, rfl⟩ := Bl.on hz; clear hz) | (go_at_call 58; refine (HRI.out _).mono ?_; rintro e z ⟨rfl, hz⟩; obtain ⟨z, rfl⟩ := Bl.on hz; clear hz) | (go_at_call 41; refine (lit (HPA.out _ _) (by assumption)).mono ?_; rintro e z ⟨rfl, hz⟩; obtain ⟨z, rfl⟩ := Bl.on hz; clear hz) | (go_at_call 41; refine (HPA.out _ _).mono ?_; rintro e z ⟨rfl, hz⟩; obtain ⟨z, rfl⟩ := Bl.on hz; clear hz))
    go_loopg [5] ss.length (fun gk v5 wr => ∃ (j : Nat) (z : Bl W0), gk = ss.length - j ∧ j ≤ ss.length ∧ v5 = .int .i64 j ∧ wr = z.val ∧ Hid (∀ (i : Nat) (x : KState), i < j → ss[i]? = some x → C.okState x = true))
    case atStart => exact ⟨0, _, rfl, Nat.zero_le _, rfl, rfl, fun i x h => by omega⟩
    case round =>
     obtain ⟨j, z, hgk, hj, rfl, rfl, hpre⟩ := hrel
     have HGK := Lib.hid hgk; clear hgk
     by_cases hlt : j < ss.length
     · obtain ⟨sb, so, hA0, hbl, hcell⟩ := HS.out.form (by omega)
       simp only at hA0
       subst hA0
       obtain ⟨x, hx⟩ : ∃ y, ss[j]? = some y := ⟨ss[j]'(by omega), List.getElem?_eq_getElem _⟩
       obtain ⟨⟨⟨shA, shc⟩, ⟨suA, suc⟩, ⟨smA, smc⟩⟩, hst, hcs⟩ := hcell j x hx
       have HSV := Lib.hid (fun z : Bl W0 => rstateValid_any (⟨⟨vhA, vhc⟩, ⟨vuA, vuc⟩, ⟨vaA, vac⟩, ⟨vkA, vkc⟩, ⟨voA, voc⟩⟩ : CV) C (⟨⟨shA, shc⟩, ⟨suA, suc⟩, ⟨smA, smc⟩⟩ : TV) x z.val (HC.out.below (Below.step HB.out z.prop)) (hst.below (Below.step HB.out z.prop)))
       simp only [CV.val, CV.cells, TV.val, TV.cells, KState.cells] at HSV
       obtain ⟨e0, e1, e2, e3⟩ := rz4 (fun z hz => hcs z (Below.step HB.out hz)) rfl
       clear hcs hst hcell
       have HX := Lib.hid hx; clear hx
       have j1 : (j : Int) < (ss.length : Int) := by omega
       cases q : C.okState x with
       | false =>
        obtain rfl : E = false := by rw [← HE.out, HP1.out, allOk_bad HX.out q]; rfl
        rw [q] at HSV
        go_wp2
        refine wp_region_bl (by kernel_rfl) (by kernel_rfl) ?_
        repeat (go_big_quiet_step (first | (go_at_call 59; exact Calls.bl_of (lit (HSV.out _) (by assumption))) | (go_at_call 59; exact Calls.bl_of (HSV.out _))))
        refine wpQuiet_nil ?_
        rintro _ ⟨zq, rfl⟩
        go_wp2
        go_ret
        exact ⟨rfl, Below.step HB.out (Bl.prop _)⟩
       | true =>
        have HQ := Lib.hid q
        rw [q] at HSV
        go_wp2
        refine wp_region_bl (by kernel_rfl) (by kernel_rfl) ?_
        repeat (go_big_quiet_step (first | (go_at_call 59; exact Calls.bl_of (lit (HSV.out _) (by assumption))) | (go_at_call 59; exact Calls.bl_of (HSV.out _))))
        refine wpQuiet_nil ?_
        rintro _ ⟨zq, rfl⟩
        go_wp2
        go_roundg (ss.length - (j + 1))
        case measure => rw [HGK.out]; omega
        case rel => exact ⟨j + 1, _, rfl, by omega, by go_num, rfl, fun i y hi hy => by
         by_cases e : i = j
         · subst e
           rw [HX.out] at hy
           injection hy with hy
           subst hy
           exact HQ.out
         · exact hpre.out i y (by omega) hy⟩
     · obtain rfl : j = ss.length := by omega
       have hall : allOk C ss = true := allOk_all (fun i x hx => hpre.out i x (List.getElem?_eq_some_iff.1 hx).1 hx)
       obtain rfl : E = true := by rw [← HE.out, HP1.out, hall]; rfl
       clear hall
       go_wp2
       go_ret
       exact ⟨rfl, Below.step HB.out (Bl.prop _)⟩
theorem means37_any (x : Int) (w : World) : Calls Tryz.prog 26 #[.int .i64 x] w (RetB (.int .i64 (cond (x == 3) 1 (cond (x == 5) 1 (cond (x == 4) 3 2)))) w) := by
 generalize hE : (cond (x == 3) 1 (cond (x == 5) 1 (cond (x == 4) 3 2)) : Int) = E
 repeat' (first | (replace hE := cd_t hE (by assumption)) | (replace hE := cd_f hE (by assumption)) | (replace hE := cd_eq hE; rcases hE with ⟨q, q', hE⟩ | ⟨q, q', hE⟩) | (replace hE := cd_any hE; rcases hE with ⟨q, hE⟩ | ⟨q, hE⟩) | fail)
 all_goals
  subst hE
  go_enter Tryz.func26, Tryz.ntmps26
  go_wp2
  go_ret
  exact ⟨rfl, Below.refl _ _⟩
theorem means37_eq {C : KCon} {s : KState} {i : Nat} {m : KMark} (h : C.okState s = true) (hm : s.marks[i]? = some m) : (cond (m.status == 3) 1 (cond (m.status == 5) 1 (cond (m.status == 4) 3 2)) : Int) = meaningI (statusAt s.marks i) := by
 have hst : statusAt s.marks i = m.status := by unfold statusAt; rw [Int.toNat_natCast, hm]; rfl
 rw [hst]
 have hl := (okState_len h).2.2
 have h4 : sMarks C s = true := by unfold KCon.okState at h; simp only [Bool.and_eq_true] at h; exact h.2.2.2.2
 obtain ⟨k, hk⟩ : ∃ k, C.clauses[i]? = some k := ⟨C.clauses[i]'(by have := (List.getElem?_eq_some_iff.1 hm).1; omega), List.getElem?_eq_getElem _⟩
 have h5 : (C.okMark k m && !(readyK s.marks k m)) = true := by
  cases e5 : (C.okMark k m && !(readyK s.marks k m)) with
  | true => rfl
  | false => rw [sMarks_bad hm hk e5] at h4; cases h4
 simp only [Bool.and_eq_true] at h5
 have h6 := h5.1
 unfold KCon.okMark okMarkB at h6
 unfold meaningI
 cases q0 : (m.status == 0) <;> cases q1 : (m.status == 1) <;> cases q2 : (m.status == 2) <;> cases q3 : (m.status == 3) <;> cases q4 : (m.status == 4) <;> cases q5 : (m.status == 5) <;> simp_all
set_option maxRecDepth 100000 in
set_option maxHeartbeats 4000000 in
theorem rverdict_any (v : CV) (C : KCon) (sv : SV) (b : KBelief) (x : Int) (w : World) (hC : ConAt w v C) (hS : StatesAt w sv b.states) : Calls Tryz.prog 14 #[v.val C, .agg #[.int .i64 b.party, .slice sv.A b.states.length sv.c], .int .i64 x] w (RetB (.int .i64 (C.verdict b x)) w) := by
 have hkx : C.clauses.length ≤ 9223372036854775807 := by obtain ⟨_, _, h, _⟩ := hC.clauses; have h1 := h.2.2.1; have h2 := h.2.2.2; unfold maxLen at h2; omega
 obtain ⟨⟨vhA, vhc⟩, ⟨vuA, vuc⟩, ⟨vaA, vac⟩, ⟨vkA, vkc⟩, ⟨voA, voc⟩⟩ := v
 obtain ⟨bA, bc⟩ := sv
 obtain ⟨pt, ss⟩ := b
 simp only at hS ⊢
 obtain ⟨hlx1, hlx2⟩ := hS.len
 simp only at hlx1 hlx2
 have hlx : ss.length ≤ 9223372036854775807 := by omega
 have HC := Lib.hid hC; clear hC
 have HS := Lib.hid hS; clear hS
 simp only [CV.val, CV.cells]
 obtain ⟨L, hL⟩ : ∃ L, ss.length = L := ⟨_, rfl⟩
 rw [hL]
 rw [hL] at hlx1 hlx
 have HL := Lib.hid hL; clear hL
 generalize hE : C.verdict ⟨pt, ss⟩ x = E
 simp only [KCon.verdict] at hE
 have HE := Lib.hid hE; clear hE
 go_enter Tryz.func14, Tryz.ntmps14
 go_upto_region 1 with (fail)
 generalize hW0 : World.alloc _ _ = W0
 obtain ⟨HB, hh0, hh1⟩ := bx2 hW0; clear hW0
 obtain ⟨k0_0, k0_1, k0_2, k0_3, k0_4, k0_5, k0_6⟩ := kc7 hh0
 clear hh0
 obtain ⟨k1_0, k1_1⟩ := kc2 hh1
 clear hh1
 change Code.wp _ _ _ _ (Bl.val (⟨W0, Below.refl _ _⟩ : Bl W0))
 generalize (⟨W0, Below.refl _ _⟩ : Bl W0) = s0
 have HGD := Lib.hid (fun z : Bl W0 => rgood37_any (⟨⟨vhA, vhc⟩, ⟨vuA, vuc⟩, ⟨vaA, vac⟩, ⟨vkA, vkc⟩, ⟨voA, voc⟩⟩ : CV) C ⟨bA, bc⟩ ⟨pt, ss⟩ z.val (HC.out.below (Below.step HB.out z.prop)) (HS.out.below (Below.step HB.out z.prop)))
 simp only [CV.val, CV.cells, HL.out] at HGD
 obtain ⟨b1, HP1, hE⟩ : ∃ b, Hid ((verdict1 C ⟨pt, ss⟩ x) = b) ∧ cond (verdict1 C ⟨pt, ss⟩ x) true false = b := ⟨_, rfl, (cd_self _).symm⟩
 simp only [verdict1, cds] at hE
 repeat' (first | (replace hE := cd_t hE (by assumption)) | (replace hE := cd_f hE (by assumption)) | (replace hE := cd_eq hE; rcases hE with ⟨q, q', hE⟩ | ⟨q, q', hE⟩) | (replace hE := cd_any hE; rcases hE with ⟨q, hE⟩ | ⟨q, hE⟩) | fail)
 all_goals first
  | focus
   obtain rfl : b1 = false := hE.symm
   clear hE
   as_aux_lemma =>
    obtain rfl : E = 0 := by rw [← HE.out, HP1.out]; rfl
    go_wp2_with (first | (go_at_call 39; refine (lit (HGD.out _) (by assumption)).mono ?_; rintro e z ⟨rfl, hz⟩; obtain ⟨z, rfl⟩ := Bl.on hz; clear hz) | (go_at_call 39; refine (HGD.out _).mono ?_; rintro e z ⟨rfl, hz⟩; obtain ⟨z, rfl⟩ := Bl.on hz; clear hz))
    first
     | (go_ret; exact ⟨rfl, Below.step HB.out (Bl.prop _)⟩)
     | (refine wp_region_bl (by kernel_rfl) (by kernel_rfl) ?_; repeat (go_big_quiet_step (first | (go_at_call 39; exact Calls.bl_of (lit (HGD.out _) (by assumption))) | (go_at_call 39; exact Calls.bl_of (HGD.out _)))); refine wpQuiet_nil ?_; rintro _ ⟨zq, rfl⟩; go_wp2_with (first | (go_at_call 39; refine (lit (HGD.out _) (by assumption)).mono ?_; rintro e z ⟨rfl, hz⟩; obtain ⟨z, rfl⟩ := Bl.on hz; clear hz) | (go_at_call 39; refine (HGD.out _).mono ?_; rintro e z ⟨rfl, hz⟩; obtain ⟨z, rfl⟩ := Bl.on hz; clear hz)); go_ret; exact ⟨rfl, Below.step HB.out (Bl.prop _)⟩)
  | focus
   obtain rfl : b1 = true := hE.symm
   clear hE
   as_aux_lemma =>
    obtain ⟨hg, hx0, hx1⟩ : C.okBelief ⟨pt, ss⟩ = true ∧ 0 ≤ x ∧ x < (C.clauses.length : Int) := by
     have h := HP1.out
     unfold verdict1 at h
     simp only [Bool.and_eq_true, Bool.not_eq_true', decide_eq_false_iff_not] at h
     exact ⟨h.1, by omega, by omega⟩
    obtain ⟨kn, rfl⟩ : ∃ kn : Nat, x = kn := ⟨x.toNat, by omega⟩
    have n1 : decide (C.clauses.length ≤ kn) = false := by rw [decide_eq_false_iff_not]; omega
    have n2 : ¬ C.clauses.length ≤ kn := by omega
    obtain ⟨hpos, hok⟩ := okBelief_state hg
    simp only at hpos hok
    rw [HL.out] at hpos
    obtain ⟨M, rfl⟩ : ∃ M, L = M + 1 := ⟨L - 1, by omega⟩
    have p0 : (0 : Int) < ((M + 1 : Nat) : Int) := by omega
    have p1 : (0 : Int) < (M : Int) + 1 := by omega
    have HOK := Lib.hid hok; clear hok
    clear hx0
    go_wp2_with (first | (go_at_call 39; refine (lit (HGD.out _) (by assumption)).mono ?_; rintro e z ⟨rfl, hz⟩; obtain ⟨z, rfl⟩ := Bl.on hz; clear hz) | (go_at_call 39; refine (HGD.out _).mono ?_; rintro e z ⟨rfl, hz⟩; obtain ⟨z, rfl⟩ := Bl.on hz; clear hz))
    obtain ⟨sb, so, hA0, hbl, hcell⟩ := HS.out.form (by have := HL.out; omega)
    simp only at hA0
    subst hA0
    obtain ⟨x, hx⟩ : ∃ y, ss[0]? = some y := ⟨ss[0]'(by have := HL.out; omega), List.getElem?_eq_getElem _⟩
    obtain ⟨⟨⟨shA, shc⟩, ⟨suA, suc⟩, ⟨smA, smc⟩⟩, hst, hcs⟩ := hcell 0 x hx
    have hok : C.okState x = true := HOK.out x (List.mem_of_getElem? hx)
    have hml : x.marks.length = C.clauses.length := (okState_len hok).2.2
    obtain ⟨m, hm⟩ : ∃ m, x.marks[kn]? = some m := ⟨x.marks[kn]'(by omega), List.getElem?_eq_getElem _⟩
    obtain ⟨mb, mo, hM0, hmb, hmc⟩ := hst.mark hm
    simp only at hM0
    subst hM0
    have hmx : x.marks.length ≤ 9223372036854775807 := by have h1 := hst.marks.2.2.1; have h2 := hst.marks.2.2.2; unfold maxLen at h2; simp only at h1; omega
    have HME := Lib.hid (fun z : Bl W0 => means37_any m.status z.val)
    rw [means37_eq hok hm] at HME
    have e3 : ∀ z : Bl W0, z.val.cell? ⟨sb, so + 3, none⟩ = some (.slice (some ⟨mb, mo, none⟩) x.marks.length smc) := fun z => by have h := hcs z.val (Below.step HB.out z.prop) 3 (by omega); rwa [Nat.zero_mul, Nat.add_zero] at h
    have ms0 : ∀ z : Bl W0, z.val.cell? ⟨mb, mo + kn * 5, none⟩ = some (.int .i64 m.status) := fun z => hmc kn m hm z.val (Below.step HB.out z.prop) 0 (by omega)
    have kx : (kn : Int) < (x.marks.length : Int) := by omega
    have kx2 : kn < x.marks.length := by omega
    have HX := Lib.hid hx
    clear hcs hst hcell hmc hm hok hx hml
    have HX0 := HX
    clear HX
    generalize hv0 : meaningI (statusAt x.marks kn) = v0 at HME
    have HV0 := Lib.hid hv0; clear hv0
    go_wp2_with (first | (go_at_call 26; refine (lit (HME.out _) (by assumption)).mono ?_; rintro e z ⟨rfl, hz⟩; obtain ⟨z, rfl⟩ := Bl.on hz; clear hz) | (go_at_call 26; refine (HME.out _).mono ?_; rintro e z ⟨rfl, hz⟩; obtain ⟨z, rfl⟩ := Bl.on hz; clear hz))
    go_simp
    go_wp2_with (first | (go_at_call 26; refine (lit (HME.out _) (by assumption)).mono ?_; rintro e z ⟨rfl, hz⟩; obtain ⟨z, rfl⟩ := Bl.on hz; clear hz) | (go_at_call 26; refine (HME.out _).mono ?_; rintro e z ⟨rfl, hz⟩; obtain ⟨z, rfl⟩ := Bl.on hz; clear hz))
    clear HME e3 ms0 kx kx2 hmx
    go_loopg [8] (M + 1) (fun gk v8 wr => ∃ (j : Nat) (z : Bl W0), gk = M + 1 - j ∧ j ≤ M + 1 ∧ v8 = .int .i64 j ∧ wr = z.val ∧ Hid (∀ (i : Nat) (y : KState), i < j → ss[i]? = some y → (meaningI (statusAt y.marks kn) == v0) = true))
    case atStart => exact ⟨0, _, rfl, Nat.zero_le _, rfl, rfl, fun i x h => by omega⟩
    case round =>
     obtain ⟨j, z, hgk, hj, rfl, rfl, hpre⟩ := hrel
     have HGK := Lib.hid hgk; clear hgk
     by_cases hlt : j < M + 1
     · have HX00 := HX0
       have HV00 := HV0
       clear HX0 HV0
       obtain ⟨sb2, so2, hA0, hbl, hcell⟩ := HS.out.form (by have := HL.out; omega)
       simp only at hA0
       obtain ⟨rfl, rfl⟩ : sb = sb2 ∧ so = so2 := by injection hA0 with h; injection h with h1 h2; exact ⟨h1, h2⟩
       clear hA0
       obtain ⟨y, hx⟩ : ∃ y, ss[j]? = some y := ⟨ss[j]'(by have := HL.out; omega), List.getElem?_eq_getElem _⟩
       obtain ⟨⟨⟨shA, shc⟩, ⟨suA, suc⟩, ⟨smA, smc⟩⟩, hst, hcs⟩ := hcell j y hx
       have hok : C.okState y = true := HOK.out y (List.mem_of_getElem? hx)
       have hml : y.marks.length = C.clauses.length := (okState_len hok).2.2
       obtain ⟨m, hm⟩ : ∃ m, y.marks[kn]? = some m := ⟨y.marks[kn]'(by omega), List.getElem?_eq_getElem _⟩
       obtain ⟨mb, mo, hM0, hmb, hmc⟩ := hst.mark hm
       simp only at hM0
       subst hM0
       have hmx : y.marks.length ≤ 9223372036854775807 := by have h1 := hst.marks.2.2.1; have h2 := hst.marks.2.2.2; unfold maxLen at h2; simp only at h1; omega
       have HME := Lib.hid (fun z : Bl W0 => means37_any m.status z.val)
       rw [means37_eq hok hm] at HME
       have e3 : ∀ z : Bl W0, z.val.cell? ⟨sb, so + j * 4 + 3, none⟩ = some (.slice (some ⟨mb, mo, none⟩) y.marks.length smc) := fun z => hcs z.val (Below.step HB.out z.prop) 3 (by omega)
       have ms0 : ∀ z : Bl W0, z.val.cell? ⟨mb, mo + kn * 5, none⟩ = some (.int .i64 m.status) := fun z => hmc kn m hm z.val (Below.step HB.out z.prop) 0 (by omega)
       have kx : (kn : Int) < (y.marks.length : Int) := by omega
       have kx2 : kn < y.marks.length := by omega
       have HX := Lib.hid hx
       clear hcs hst hcell hmc hm hok hx hml
       generalize hv1 : meaningI (statusAt y.marks kn) = v1 at HME
       have HV1 := Lib.hid hv1; clear hv1
       have j1 : (j : Int) < ((M + 1 : Nat) : Int) := by omega
       cases q : (v1 == v0) with
       | true =>
        have q2 : (v1 != v0) = false := by simpa using q
        have HQ := Lib.hid q
        go_wp2_with (first | (go_at_call 26; refine (lit (HME.out _) (by assumption)).mono ?_; rintro e z ⟨rfl, hz⟩; obtain ⟨z, rfl⟩ := Bl.on hz; clear hz) | (go_at_call 26; refine (HME.out _).mono ?_; rintro e z ⟨rfl, hz⟩; obtain ⟨z, rfl⟩ := Bl.on hz; clear hz))
        go_roundg (M + 1 - (j + 1))
        case measure => rw [HGK.out]; omega
        case rel => exact ⟨j + 1, _, rfl, by omega, by go_num, rfl, fun i y' hi hy => by
         by_cases e : i = j
         · subst e
           rw [HX.out] at hy
           injection hy with hy
           subst hy
           rw [HV1.out]
           exact HQ.out
         · exact hpre.out i y' (by omega) hy⟩
       | false =>
        have q2 : (v1 != v0) = true := by simpa using q
        obtain rfl : E = 0 := by
         rw [← HE.out, HP1.out, cond_true]
         cases j with
         | zero =>
          rw [HX.out] at HX00
          have h := HX00.out
          injection h with h
          subst h
          rw [← HV1.out, ← HV00.out, beq_self_eq_true] at q
          cases q
         | succ j => exact agreedK_bad (f := fun s => meaningI (statusAt s.marks kn)) HX00.out HX.out (by rw [HV1.out, HV00.out]; exact q)
        go_wp2_with (first | (go_at_call 26; refine (lit (HME.out _) (by assumption)).mono ?_; rintro e z ⟨rfl, hz⟩; obtain ⟨z, rfl⟩ := Bl.on hz; clear hz) | (go_at_call 26; refine (HME.out _).mono ?_; rintro e z ⟨rfl, hz⟩; obtain ⟨z, rfl⟩ := Bl.on hz; clear hz))
        go_ret
        exact ⟨rfl, Below.step HB.out (Bl.prop _)⟩
     · obtain rfl : j = M + 1 := by omega
       obtain rfl : E = v0 := by
        rw [← HE.out, HP1.out, cond_true, agreedK_all (f := fun s => meaningI (statusAt s.marks kn)) HX0.out (fun i y hy => by rw [HV0.out]; exact hpre.out (i + 1) y (by have h := (List.getElem?_eq_some_iff.1 hy).1; have := HL.out; omega) hy)]
        exact HV0.out
       go_wp2
       go_ret
       exact ⟨rfl, Below.step HB.out (Bl.prop _)⟩
theorem agreed_count (g : KState → Bool) (ss : List KState) (h : 0 < ss.length) : agreedK (fun s => blameI (g s)) ss = (if ss.countP g = ss.length then 3 else if ss.countP g = 0 then 2 else 0) := by
 cases ss with
 | nil => simp at h
 | cons s r =>
  simp only [agreedK, List.length_cons]
  cases hs : g s with
  | true =>
   rw [List.countP_cons_of_pos hs]
   by_cases e : r.countP g = r.length
   · rw [if_pos (by omega)]
     rw [List.countP_eq_length] at e
     have : (r.all fun x => blameI (g x) == blameI true) = true := by rw [List.all_eq_true]; intro x hx; rw [e x hx]; rfl
     rw [this]; rfl
   · rw [if_neg (by omega), if_neg (by omega)]
     have : (r.all fun x => blameI (g x) == blameI true) = false := by
      cases e2 : (r.all fun x => blameI (g x) == blameI true) with
      | false => rfl
      | true =>
       exfalso
       apply e
       rw [List.countP_eq_length]
       intro x hx
       have := List.all_eq_true.1 e2 x hx
       cases e3 : g x with
       | true => rfl
       | false => rw [e3] at this; cases this
     rw [this]; rfl
  | false =>
   rw [List.countP_cons_of_neg (by rw [hs]; simp)]
   have hle := List.countP_le_length (p := g) (l := r)
   rw [if_neg (by omega)]
   by_cases e : r.countP g = 0
   · rw [if_pos e]
     rw [List.countP_eq_zero] at e
     have : (r.all fun x => blameI (g x) == blameI false) = true := by
      rw [List.all_eq_true]; intro x hx
      have := e x hx
      cases e3 : g x with
      | true => rw [e3] at this; simp at this
      | false => rfl
     rw [this]; rfl
   · rw [if_neg e]
     have : (r.all fun x => blameI (g x) == blameI false) = false := by
      cases e2 : (r.all fun x => blameI (g x) == blameI false) with
      | false => rfl
      | true =>
       exfalso
       apply e
       rw [List.countP_eq_zero]
       intro x hx
       have := List.all_eq_true.1 e2 x hx
       cases e3 : g x with
       | true => rw [e3] at this; cases this
       | false => simp
     rw [this]; rfl
set_option maxRecDepth 100000 in
set_option maxHeartbeats 4000000 in
theorem rblames_any (v : CV) (C : KCon) (sv : SV) (b : KBelief) (x : Int) (w : World) (hC : ConAt w v C) (hS : StatesAt w sv b.states) : Calls Tryz.prog 16 #[v.val C, .agg #[.int .i64 b.party, .slice sv.A b.states.length sv.c], .int .i64 x] w (RetB (.int .i64 (C.blames b x)) w) := by
 obtain ⟨⟨vhA, vhc⟩, ⟨vuA, vuc⟩, ⟨vaA, vac⟩, ⟨vkA, vkc⟩, ⟨voA, voc⟩⟩ := v
 obtain ⟨bA, bc⟩ := sv
 obtain ⟨pt, ss⟩ := b
 simp only at hS ⊢
 obtain ⟨hlx1, hlx2⟩ := hS.len
 simp only at hlx1 hlx2
 have hlx : ss.length ≤ 9223372036854775807 := by omega
 have HC := Lib.hid hC; clear hC
 have HS := Lib.hid hS; clear hS
 simp only [CV.val, CV.cells]
 generalize hE : C.blames ⟨pt, ss⟩ x = E
 simp only [KCon.blames] at hE
 have HE := Lib.hid hE; clear hE
 go_enter Tryz.func16, Tryz.ntmps16
 go_upto_region 1 with (fail)
 generalize hW0 : World.alloc _ _ = W0
 obtain ⟨HB, hh0, hh1⟩ := bx2 hW0; clear hW0
 obtain ⟨k0_0, k0_1, k0_2, k0_3, k0_4, k0_5, k0_6⟩ := kc7 hh0
 clear hh0
 obtain ⟨k1_0, k1_1⟩ := kc2 hh1
 clear hh1
 change Code.wp _ _ _ _ (Bl.val (⟨W0, Below.refl _ _⟩ : Bl W0))
 generalize (⟨W0, Below.refl _ _⟩ : Bl W0) = s0
 have HGD := Lib.hid (fun z : Bl W0 => rgood37_any (⟨⟨vhA, vhc⟩, ⟨vuA, vuc⟩, ⟨vaA, vac⟩, ⟨vkA, vkc⟩, ⟨voA, voc⟩⟩ : CV) C ⟨bA, bc⟩ ⟨pt, ss⟩ z.val (HC.out.below (Below.step HB.out z.prop)) (HS.out.below (Below.step HB.out z.prop)))
 simp only [CV.val, CV.cells] at HGD
 have HPA := Lib.hid (fun (x : Int) (z : Bl W0) => rparty_any (⟨⟨vhA, vhc⟩, ⟨vuA, vuc⟩, ⟨vaA, vac⟩, ⟨vkA, vkc⟩, ⟨voA, voc⟩⟩ : CV) C x z.val)
 simp only [CV.val, CV.cells] at HPA
 have HB1 : Hid (blames1 C ⟨pt, ss⟩ x = (C.okBelief ⟨pt, ss⟩ && C.party x)) := by
  show _ = _
  unfold blames1 KCon.party
  rw [show decide (0 ≤ x) = !decide (x < 0) by rw [Bool.eq_iff_iff]; simp, show decide (x < C.parties) = !decide (C.parties ≤ x) by rw [Bool.eq_iff_iff]; simp]
 obtain ⟨b1, HP1, hE⟩ : ∃ b, Hid ((C.okBelief ⟨pt, ss⟩ && C.party x) = b) ∧ cond (C.okBelief ⟨pt, ss⟩ && C.party x) true false = b := ⟨_, rfl, (cd_self _).symm⟩
 simp only [cds] at hE
 repeat' (first | (replace hE := cd_t hE (by assumption)) | (replace hE := cd_f hE (by assumption)) | (replace hE := cd_eq hE; rcases hE with ⟨q, q', hE⟩ | ⟨q, q', hE⟩) | (replace hE := cd_any hE; rcases hE with ⟨q, hE⟩ | ⟨q, hE⟩) | fail)
 all_goals first
  | focus
   obtain rfl : b1 = false := hE.symm
   clear hE
   as_aux_lemma =>
    obtain rfl : E = 0 := by rw [← HE.out, HB1.out, HP1.out]; rfl
    go_wp2_with (first | (go_at_call 39; refine (lit (HGD.out _) (by assumption)).mono ?_; rintro e z ⟨rfl, hz⟩; obtain ⟨z, rfl⟩ := Bl.on hz; clear hz) | (go_at_call 39; refine (HGD.out _).mono ?_; rintro e z ⟨rfl, hz⟩; obtain ⟨z, rfl⟩ := Bl.on hz; clear hz) | (go_at_call 41; refine (lit (HPA.out _ _) (by assumption)).mono ?_; rintro e z ⟨rfl, hz⟩; obtain ⟨z, rfl⟩ := Bl.on hz; clear hz) | (go_at_call 41; refine (HPA.out _ _).mono ?_; rintro e z ⟨rfl, hz⟩; obtain ⟨z, rfl⟩ := Bl.on hz; clear hz))
    first
     | (go_ret; exact ⟨rfl, Below.step HB.out (Bl.prop _)⟩)
     | (refine wp_region_bl (by kernel_rfl) (by kernel_rfl) ?_; repeat (go_big_quiet_step (first | (go_at_call 39; exact Calls.bl_of (lit (HGD.out _) (by assumption))) | (go_at_call 39; exact Calls.bl_of (HGD.out _)) | (go_at_call 41; exact Calls.bl_of (lit (HPA.out _ _) (by assumption))) | (go_at_call 41; exact Calls.bl_of (HPA.out _ _)))); refine wpQuiet_nil ?_; rintro _ ⟨zq, rfl⟩; go_wp2_with (first | (go_at_call 39; refine (lit (HGD.out _) (by assumption)).mono ?_; rintro e z ⟨rfl, hz⟩; obtain ⟨z, rfl⟩ := Bl.on hz; clear hz) | (go_at_call 39; refine (HGD.out _).mono ?_; rintro e z ⟨rfl, hz⟩; obtain ⟨z, rfl⟩ := Bl.on hz; clear hz) | (go_at_call 41; refine (lit (HPA.out _ _) (by assumption)).mono ?_; rintro e z ⟨rfl, hz⟩; obtain ⟨z, rfl⟩ := Bl.on hz; clear hz) | (go_at_call 41; refine (HPA.out _ _).mono ?_; rintro e z ⟨rfl, hz⟩; obtain ⟨z, rfl⟩ := Bl.on hz; clear hz)); go_ret; exact ⟨rfl, Below.step HB.out (Bl.prop _)⟩)
  | focus
   obtain rfl : b1 = true := hE.symm
   clear hE
   as_aux_lemma =>
    obtain ⟨hpos, _⟩ : 0 < ss.length ∧ True := ⟨by
     have h := HP1.out
     rw [Bool.and_eq_true] at h
     exact (okBelief_state h.1).1, trivial⟩
    go_wp2_with (first | (go_at_call 39; refine (lit (HGD.out _) (by assumption)).mono ?_; rintro e z ⟨rfl, hz⟩; obtain ⟨z, rfl⟩ := Bl.on hz; clear hz) | (go_at_call 39; refine (HGD.out _).mono ?_; rintro e z ⟨rfl, hz⟩; obtain ⟨z, rfl⟩ := Bl.on hz; clear hz) | (go_at_call 41; refine (lit (HPA.out _ _) (by assumption)).mono ?_; rintro e z ⟨rfl, hz⟩; obtain ⟨z, rfl⟩ := Bl.on hz; clear hz) | (go_at_call 41; refine (HPA.out _ _).mono ?_; rintro e z ⟨rfl, hz⟩; obtain ⟨z, rfl⟩ := Bl.on hz; clear hz))
    go_loopg [7, 8] ss.length (fun gk v7 v8 wr => ∃ (j : Nat) (z : Bl W0), gk = ss.length - j ∧ j ≤ ss.length ∧ v7 = .int .i64 ((ss.take j).countP (fun s => C.breach s x)) ∧ v8 = .int .i64 j ∧ wr = z.val)
    case atStart => exact ⟨0, _, rfl, Nat.zero_le _, rfl, rfl, rfl⟩
    case round =>
     obtain ⟨j, z, hgk, hj, rfl, rfl, rfl⟩ := hrel
     have HGK := Lib.hid hgk; clear hgk
     by_cases hlt : j < ss.length
     · obtain ⟨sb, so, hA0, hbl, hcell⟩ := HS.out.form (by omega)
       simp only at hA0
       subst hA0
       obtain ⟨y, hx⟩ : ∃ y, ss[j]? = some y := ⟨ss[j]'(by omega), List.getElem?_eq_getElem _⟩
       obtain ⟨⟨⟨shA, shc⟩, ⟨suA, suc⟩, ⟨smA, smc⟩⟩, hst, hcs⟩ := hcell j y hx
       have HBR := Lib.hid (fun z : Bl W0 => rbreach_any (⟨⟨vhA, vhc⟩, ⟨vuA, vuc⟩, ⟨vaA, vac⟩, ⟨vkA, vkc⟩, ⟨voA, voc⟩⟩ : CV) C (⟨⟨shA, shc⟩, ⟨suA, suc⟩, ⟨smA, smc⟩⟩ : TV) y x z.val (HC.out.below (Below.step HB.out z.prop)) (hst.below (Below.step HB.out z.prop)))
       simp only [CV.val, CV.cells, TV.val, TV.cells, KState.cells] at HBR
       obtain ⟨e0, e1, e2, e3⟩ := rz4 (fun z hz => hcs z (Below.step HB.out hz)) rfl
       clear hcs hst hcell
       have HTK : Hid ((ss.take (j + 1)).countP (fun s => C.breach s x) = (ss.take j).countP (fun s => C.breach s x) + cond (C.breach y x) 1 0) := by
        show _ = _
        rw [take_snoc' hx, List.countP_append]
        cases e : C.breach y x <;> simp [e]
       have hcl : (ss.take j).countP (fun s => C.breach s x) ≤ j := Nat.le_trans (List.countP_le_length) (by rw [List.length_take]; omega)
       generalize (ss.take j).countP (fun s => C.breach s x) = n at HTK hcl ⊢
       clear hx
       have j1 : (j : Int) < (ss.length : Int) := by omega
       cases q : C.breach y x with
       | false =>
        rw [q] at HBR
        have HN : Hid ((ss.take (j + 1)).countP (fun s => C.breach s x) = n) := by show _ = _; rw [HTK.out, q]; rfl
        clear HTK
        go_wp2
        refine wp_region_bl (by kernel_rfl) (by kernel_rfl) ?_
        repeat (go_big_quiet_step (first | (go_at_call 42; exact Calls.bl_of (lit (HBR.out _) (by assumption))) | (go_at_call 42; exact Calls.bl_of (HBR.out _))))
        refine wpQuiet_nil ?_
        rintro _ ⟨zq, rfl⟩
        go_wp2
        go_roundg (ss.length - (j + 1))
        case measure => rw [HGK.out]; omega
        case rel => exact ⟨j + 1, _, rfl, by omega, by rw [HN.out], by go_num, rfl⟩
       | true =>
        rw [q] at HBR
        have HN : Hid ((ss.take (j + 1)).countP (fun s => C.breach s x) = n + 1) := by show _ = _; rw [HTK.out, q]; rfl
        clear HTK
        go_wp2
        refine wp_region_bl (by kernel_rfl) (by kernel_rfl) ?_
        repeat (go_big_quiet_step (first | (go_at_call 42; exact Calls.bl_of (lit (HBR.out _) (by assumption))) | (go_at_call 42; exact Calls.bl_of (HBR.out _))))
        refine wpQuiet_nil ?_
        rintro _ ⟨zq, rfl⟩
        go_wp2
        go_roundg (ss.length - (j + 1))
        case measure => rw [HGK.out]; omega
        case rel => exact ⟨j + 1, _, rfl, by omega, by rw [HN.out]; go_num, by go_num, rfl⟩
     · obtain rfl : j = ss.length := by omega
       have hag := agreed_count (fun s => C.breach s x) ss hpos
       have hcl : ss.countP (fun s => C.breach s x) ≤ ss.length := List.countP_le_length
       rw [List.take_length]
       have hEE : E = (if ss.countP (fun s => C.breach s x) = ss.length then 3 else if ss.countP (fun s => C.breach s x) = 0 then 2 else 0) := by rw [← HE.out, HB1.out, HP1.out]; exact hag
       clear hag
       generalize ss.countP (fun s => C.breach s x) = n at hEE hcl ⊢
       by_cases e1 : n = ss.length
       · rw [if_pos e1] at hEE
         subst hEE e1
         go_wp2
         go_ret
         exact ⟨rfl, Below.step HB.out (Bl.prop _)⟩
       · rw [if_neg e1] at hEE
         have q1 : ((n : Int) == (ss.length : Int)) = false := by rw [beq_eq_false_iff_ne]; omega
         by_cases e2 : n = 0
         · rw [if_pos e2] at hEE
           subst hEE e2
           go_wp2
           go_ret
           exact ⟨rfl, Below.step HB.out (Bl.prop _)⟩
         · rw [if_neg e2] at hEE
           subst hEE
           have q2 : ((n : Int) == 0) = false := by rw [beq_eq_false_iff_ne]; omega
           go_wp2
           go_ret
           exact ⟨rfl, Below.step HB.out (Bl.prop _)⟩
end Go.Proofs.YtaielhafpmjkaaaGreatDoor
namespace Go.Proofs.YtaielhafpmjkaaaGreatDoor
open Go.RowKit Go.Shelf
set_option maxRecDepth 100000 in
set_option maxHeartbeats 4000000 in
theorem gives_walk (v : CV) (C : KCon) (p : Int) (sv : SV) (b : List KState) (x y : Int) (w : World) (hC : ConAt w v C) (hS : StatesAt w sv b) (hT : Tab w) : Calls Tryz.prog 3 #[v.val C, .agg #[.int .i64 p, .slice sv.A b.length sv.c], .int .i64 x, .int .i64 y] w (RetB (.bool true) w) := by
 obtain ⟨⟨vhA, vhc⟩, ⟨vuA, vuc⟩, ⟨vaA, vac⟩, ⟨vkA, vkc⟩, ⟨voA, voc⟩⟩ := v
 obtain ⟨bA, bc⟩ := sv
 have HC := Lib.hid hC; clear hC
 have HS := Lib.hid hS; clear hS
 have HT := Lib.hid hT; clear hT
 simp only [CV.val, CV.cells]
 go_enter Tryz.func3, Tryz.ntmps3
 go_upto_region 1 with (fail)
 generalize hW0 : World.alloc _ _ = W0
 obtain ⟨HB, hh0, hh1⟩ := bx2 hW0; clear hW0
 obtain ⟨k0_0, k0_1, k0_2, k0_3, k0_4, k0_5, k0_6⟩ := kc7 hh0
 clear hh0
 obtain ⟨k1_0, k1_1⟩ := kc2 hh1
 clear hh1
 change Code.wp _ _ _ _ (Bl.val (⟨W0, Below.refl _ _⟩ : Bl W0))
 generalize (⟨W0, Below.refl _ _⟩ : Bl W0) = s0
 have HH := Lib.hid (fun z : Bl W0 => head_any z.val (HT.out.below (Below.step HB.out z.prop)))
 have HFW := Lib.hid (fun z : Bl W0 => few_any (⟨⟨vhA, vhc⟩, ⟨vuA, vuc⟩, ⟨vaA, vac⟩, ⟨vkA, vkc⟩, ⟨voA, voc⟩⟩ : CV) C ⟨none, 0⟩ [] p ⟨bA, bc⟩ b z.val (HC.out.below (Below.step HB.out z.prop)) (at_nil _ _) (HS.out.below (Below.step HB.out z.prop)))
 have HV1 := Lib.hid (fun z : Bl W0 => verdict_any (⟨⟨vhA, vhc⟩, ⟨vuA, vuc⟩, ⟨vaA, vac⟩, ⟨vkA, vkc⟩, ⟨voA, voc⟩⟩ : CV) C ⟨bA, bc⟩ ⟨p, b⟩ x z.val (HC.out.below (Below.step HB.out z.prop)) (HS.out.below (Below.step HB.out z.prop)))
 have HV2 := Lib.hid (fun z : Bl W0 => rverdict_any (⟨⟨vhA, vhc⟩, ⟨vuA, vuc⟩, ⟨vaA, vac⟩, ⟨vkA, vkc⟩, ⟨voA, voc⟩⟩ : CV) C ⟨bA, bc⟩ ⟨p, b⟩ x z.val (HC.out.below (Below.step HB.out z.prop)) (HS.out.below (Below.step HB.out z.prop)))
 have HB1 := Lib.hid (fun z : Bl W0 => blames_any (⟨⟨vhA, vhc⟩, ⟨vuA, vuc⟩, ⟨vaA, vac⟩, ⟨vkA, vkc⟩, ⟨voA, voc⟩⟩ : CV) C ⟨bA, bc⟩ ⟨p, b⟩ y z.val (HC.out.below (Below.step HB.out z.prop)) (HS.out.below (Below.step HB.out z.prop)))
 have HB2 := Lib.hid (fun z : Bl W0 => rblames_any (⟨⟨vhA, vhc⟩, ⟨vuA, vuc⟩, ⟨vaA, vac⟩, ⟨vkA, vkc⟩, ⟨voA, voc⟩⟩ : CV) C ⟨bA, bc⟩ ⟨p, b⟩ y z.val (HC.out.below (Below.step HB.out z.prop)) (HS.out.below (Below.step HB.out z.prop)))
 simp only [CV.val, CV.cells, List.length_nil] at HFW HV1 HV2 HB1 HB2
 have qv : ((C.verdict ⟨p, b⟩ x) == (C.verdict ⟨p, b⟩ x)) = true := beq_self_eq_true _
 have qb : ((C.blames ⟨p, b⟩ y) == (C.blames ⟨p, b⟩ y)) = true := beq_self_eq_true _
 generalize C.verdict ⟨p, b⟩ x = vv at HV1 HV2 qv
 generalize C.blames ⟨p, b⟩ y = ww at HB1 HB2 qb
 go_wp2_with (first | (go_at_call 11; refine (HH.out _).mono ?_; rintro e z ⟨rfl, hz⟩; obtain ⟨z, rfl⟩ := Bl.on hz; clear hz) | (go_at_call 12; refine (HFW.out _).mono ?_; rintro e z ⟨fx, rfl, hz⟩; obtain ⟨z, rfl⟩ := Bl.on hz; clear hz; refine Hid.out ?_))
 refine Lib.hid ?_
 cases fx with
 | false =>
  go_wp2
  go_ret
  exact ⟨rfl, Below.step HB.out (Bl.prop _)⟩
 | true =>
  go_wp2_with fail
  refine wp_region_bl (by kernel_rfl) (by kernel_rfl) ?_
  repeat (go_big_quiet_step (first | (go_at_call 13; exact Calls.bl_of (HV1.out _)) | (go_at_call 14; exact Calls.bl_of (HV2.out _)) | (go_at_call 15; exact Calls.bl_of (HB1.out _)) | (go_at_call 16; exact Calls.bl_of (HB2.out _))))
  refine wpQuiet_nil ?_
  rintro _ ⟨zq, rfl⟩
  go_wp2
  go_ret
  exact ⟨rfl, Below.step HB.out (Bl.prop _)⟩
end Go.Proofs.YtaielhafpmjkaaaGreatDoor
