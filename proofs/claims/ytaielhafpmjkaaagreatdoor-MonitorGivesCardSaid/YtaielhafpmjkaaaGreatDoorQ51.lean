/-
  RefC; RefE
-/
import Derived.Test.YtaielhafpmjkaaaGreatDoorQ50
import Derived.Test.YtaielhafpmjkaaaGreatDoorQ52
import Derived.Test.YtaielhafpmjkaaaGreatDoorQ10
namespace Go.Proofs.YtaielhafpmjkaaaGreatDoor
open Go.RowKit
def rF1 (C : KCon) : Bool := decide (C.parties < 1) || (decide (C.days < 1) || decide ((C.holders.length : Int) < 1))
def rFramed (C : KCon) : Bool := okUnits C.units && ((!rF1 C) && (C.held && (C.okActs && offOk C.days (-1) C.off)))
theorem rFramed_eq (C : KCon) : rFramed C = C.framed := by
 unfold rFramed KCon.framed fr1 rF1
 rw [show decide ((C.holders.length : Int) < 1) = ((C.holders.length : Int) == 0) by rw [Bool.eq_iff_iff, decide_eq_true_iff, beq_iff_eq]; omega]
 cases okUnits C.units <;> cases decide (C.parties < 1) <;> cases decide (C.days < 1) <;> cases ((C.holders.length : Int) == 0) <;> cases C.held <;> cases C.okActs <;> rfl
set_option maxRecDepth 100000 in
set_option maxHeartbeats 4000000 in
theorem rrest_any (v : CV) (C : KCon) (w : World) (hC : ConAt w v C) (hu : C.units.length ≤ 1000) : Calls Tryz.prog 107 #[v.val C] w (RetB (.bool C.framed) w) := by
 rw [← rFramed_eq]
 obtain ⟨⟨vhA, vhc⟩, ⟨vuA, vuc⟩, ⟨vaA, vac⟩, ⟨vkA, vkc⟩, ⟨voA, voc⟩⟩ := v
 have hax : C.acts.length ≤ 9223372036854775807 := by have h1 := hC.acts.2.2.1; have h2 := hC.acts.2.2.2; unfold maxLen at h2; omega
 have hox : C.off.length ≤ 9223372036854775807 := by have h1 := hC.off.2.2.1; have h2 := hC.off.2.2.2; unfold maxLen at h2; omega
 have hhx : C.holders.length ≤ 9223372036854775807 := by have h1 := hC.holders.2.2.1; have h2 := hC.holders.2.2.2; unfold maxLen at h2; omega
 have HC := Lib.hid hC; clear hC
 simp only [CV.val, CV.cells]
 generalize hE : rFramed C = E
 simp only [rFramed] at hE
 have HE := Lib.hid hE; clear hE
 go_enter Tryz.func107, Tryz.ntmps107
 go_upto_region 1 with (fail)
 generalize hW0 : World.alloc _ _ = W0
 obtain ⟨HB, hh0⟩ := bx1 hW0; clear hW0
 obtain ⟨k0_0, k0_1, k0_2, k0_3, k0_4, k0_5, k0_6⟩ := kc7 hh0
 clear hh0
 change Code.wp _ _ _ _ (Bl.val (⟨W0, Below.refl _ _⟩ : Bl W0))
 generalize (⟨W0, Below.refl _ _⟩ : Bl W0) = s0
 have HUN := Lib.hid (fun z : Bl W0 => runits_any vuA vuc C.units z.val (HC.out.below (Below.step HB.out z.prop)).units hu)
 go_wp2_with (go_at_call 120; refine (HUN.out _).mono ?_; rintro e z ⟨n, rfl, hz⟩; obtain ⟨z2, rfl⟩ := Bl.on hz; clear hz; refine Hid.out ?_)
 refine Lib.hid ?_
 clear HUN
 cases hcu : okUnits C.units with
 | false =>
  obtain rfl : E = false := by rw [← HE.out, hcu]; rfl
  clear hcu
  go_wp2
  go_ret
  exact ⟨rfl, Below.step HB.out (Bl.prop _)⟩
 | true =>
  have HCU := Lib.hid hcu; clear hcu
  obtain ⟨b1, HP1, hE⟩ : ∃ b, Hid ((!rF1 C) = b) ∧ cond (!rF1 C) true false = b := ⟨_, rfl, (cd_self _).symm⟩
  simp only [rF1, cds] at hE
  repeat' (first | (replace hE := cd_t hE (by assumption)) | (replace hE := cd_f hE (by assumption)) | (replace hE := cd_eq hE; rcases hE with ⟨q, q', hE⟩ | ⟨q, q', hE⟩) | (replace hE := cd_any hE; rcases hE with ⟨q, hE⟩ | ⟨q, hE⟩) | fail)
  all_goals first
   | focus
    obtain rfl : b1 = false := hE.symm
    clear hE
    as_aux_lemma =>
     obtain rfl : E = false := by rw [← HE.out, HCU.out, HP1.out]; rfl
     go_wp2
     go_ret
     exact ⟨rfl, Below.step HB.out (Bl.prop _)⟩
   | focus
    obtain rfl : b1 = true := hE.symm
    clear hE
    as_aux_lemma =>
     go_wp2
     go_loopg [5] C.holders.length (fun gk v5 wr => ∃ (j : Nat) (z : Bl W0), gk = C.holders.length - j ∧ j ≤ C.holders.length ∧ v5 = .int .i64 j ∧ wr = z.val ∧ Hid (∀ i x, i < j → C.holders[i]? = some x → C.party x = true))
     case atStart => exact ⟨0, _, rfl, Nat.zero_le _, rfl, rfl, fun i u h => by omega⟩
     case round =>
      obtain ⟨j, z, hgk, hj, rfl, rfl, hpre⟩ := hrel
      have HGK := Lib.hid hgk; clear hgk
      by_cases hlt : j < C.holders.length
      · obtain ⟨b, off, hA0, hbl, hcell⟩ := (HC.out.below HB.out).holders.1.form (by omega) (by omega)
        simp only at hA0
        subst hA0
        obtain ⟨x, hx⟩ : ∃ x, C.holders[j]? = some x := ⟨C.holders[j], List.getElem?_eq_getElem hlt⟩
        have kx : ∀ s : Bl W0, s.val.cell? ⟨b, off + j, none⟩ = some (.int .i64 x) := fun s => s.cell (by rw [hcell _ (by omega)]; simp [ints, hx])
        clear hcell
        have HX := Lib.hid hx; clear hx
        have HPA := Lib.hid (fun s : Bl W0 => rparty_any (⟨⟨some ⟨b, off, none⟩, vhc⟩, ⟨vuA, vuc⟩, ⟨vaA, vac⟩, ⟨vkA, vkc⟩, ⟨voA, voc⟩⟩ : CV) C x s.val)
        simp only [CV.val, CV.cells] at HPA
        have j1 : (j : Int) < (C.holders.length : Int) := by omega
        cases q : C.party x with
        | false =>
         obtain rfl : E = false := by rw [← HE.out, HCU.out, HP1.out, held_bad HX.out q]; rfl
         rw [q] at HPA
         go_wp2
         refine wp_region_bl (by kernel_rfl) (by kernel_rfl) ?_
         repeat (go_big_quiet_step (first | (go_at_call 41; exact Calls.bl_of (lit (HPA.out _) (by assumption))) | (go_at_call 41; exact Calls.bl_of (HPA.out _))))
         refine wpQuiet_nil ?_
         rintro _ ⟨zq, rfl⟩
         go_wp2
         go_ret
         exact ⟨rfl, Below.step HB.out (Bl.prop _)⟩
        | true =>
         have HV := Lib.hid q
         rw [q] at HPA
         go_wp2
         refine wp_region_bl (by kernel_rfl) (by kernel_rfl) ?_
         repeat (go_big_quiet_step (first | (go_at_call 41; exact Calls.bl_of (lit (HPA.out _) (by assumption))) | (go_at_call 41; exact Calls.bl_of (HPA.out _))))
         refine wpQuiet_nil ?_
         rintro _ ⟨zq, rfl⟩
         go_wp2
         go_roundg (C.holders.length - (j + 1))
         case measure => rw [HGK.out]; omega
         case rel => exact ⟨j + 1, _, rfl, by omega, by go_num, rfl, fun i y hi hy => by
          by_cases e : i = j
          · subst e
            rw [HX.out] at hy
            injection hy with hy
            subst hy
            exact HV.out
          · exact hpre.out i y (by omega) hy⟩
      · obtain rfl : j = C.holders.length := by omega
        have HHE : Hid (C.held = true) := held_all (fun i u hu => hpre.out i u (List.getElem?_eq_some_iff.1 hu).1 hu)
        clear hpre HGK
        go_wp2
        go_loopg [6] C.acts.length (fun gk v6 wr => ∃ (j : Nat) (z : Bl W0), gk = C.acts.length - j ∧ j ≤ C.acts.length ∧ v6 = .int .i64 j ∧ wr = z.val ∧ Hid (∀ (i : Nat) (x : KAct), i < j → C.acts[i]? = some x → C.okAct x = true))
        case atStart => exact ⟨0, _, rfl, Nat.zero_le _, rfl, rfl, fun i x h => by omega⟩
        case round =>
         obtain ⟨j, z, hgk, hj, rfl, rfl, hpre⟩ := hrel
         have HGK := Lib.hid hgk; clear hgk
         by_cases hlt : j < C.acts.length
         · obtain ⟨a, ha⟩ : ∃ a, C.acts[j]? = some a := ⟨C.acts[j], List.getElem?_eq_getElem hlt⟩
           obtain ⟨b, off, hA0, hb, hcell⟩ := HC.out.act ha
           simp only at hA0
           subst hA0
           have HAJ := Lib.hid ha; clear ha
           obtain ⟨ki, ro, gi, tg, un, ⟨ln, ld⟩⟩ := a
           have e0 : ∀ s : Bl W0, s.val.cell? ⟨b, off + j * 7, none⟩ = some (.int .i64 ki) := fun s => hcell s.val (Below.step HB.out s.prop) 0 (by omega)
           have e1 : ∀ s : Bl W0, s.val.cell? ⟨b, off + j * 7 + 1, none⟩ = some (.int .i64 ro) := fun s => hcell s.val (Below.step HB.out s.prop) 1 (by omega)
           have e2 : ∀ s : Bl W0, s.val.cell? ⟨b, off + j * 7 + 2, none⟩ = some (.int .i64 gi) := fun s => hcell s.val (Below.step HB.out s.prop) 2 (by omega)
           have e3 : ∀ s : Bl W0, s.val.cell? ⟨b, off + j * 7 + 3, none⟩ = some (.int .i64 tg) := fun s => hcell s.val (Below.step HB.out s.prop) 3 (by omega)
           have e4 : ∀ s : Bl W0, s.val.cell? ⟨b, off + j * 7 + 4, none⟩ = some (.int .i64 un) := fun s => hcell s.val (Below.step HB.out s.prop) 4 (by omega)
           have e5 : ∀ s : Bl W0, s.val.cell? ⟨b, off + j * 7 + 5, none⟩ = some (.int .i64 ln) := fun s => hcell s.val (Below.step HB.out s.prop) 5 (by omega)
           have e6 : ∀ s : Bl W0, s.val.cell? ⟨b, off + j * 7 + 6, none⟩ = some (.int .i64 ld) := fun s => hcell s.val (Below.step HB.out s.prop) 6 (by omega)
           clear hcell
           have HAC := Lib.hid (fun s : Bl W0 => ract_raw (⟨⟨vhA, vhc⟩, ⟨vuA, vuc⟩, ⟨some ⟨b, off, none⟩, vac⟩, ⟨vkA, vkc⟩, ⟨voA, voc⟩⟩ : CV) C ki ro gi tg un ln ld s.val)
           simp only [CV.val, CV.cells, okActR_eq] at HAC
           have j1 : (j : Int) < (C.acts.length : Int) := by omega
           cases q : okActB C ki ro gi tg un ln ld with
           | false =>
            obtain rfl : E = false := by rw [← HE.out, HCU.out, HP1.out, HHE.out, okActs_bad HAJ.out q]; rfl
            rw [q] at HAC
            go_wp2
            refine wp_region_bl (by kernel_rfl) (by kernel_rfl) ?_
            repeat (go_big_quiet_step (first | (go_at_call 121; exact Calls.bl_of (lit (HAC.out _) (by assumption))) | (go_at_call 121; exact Calls.bl_of (HAC.out _))))
            refine wpQuiet_nil ?_
            rintro _ ⟨zq, rfl⟩
            go_wp2
            go_ret
            exact ⟨rfl, Below.step HB.out (Bl.prop _)⟩
           | true =>
            have HV : Hid (C.okAct ⟨ki, ro, gi, tg, un, ⟨ln, ld⟩⟩ = true) := q
            rw [q] at HAC
            go_wp2
            refine wp_region_bl (by kernel_rfl) (by kernel_rfl) ?_
            repeat (go_big_quiet_step (first | (go_at_call 121; exact Calls.bl_of (lit (HAC.out _) (by assumption))) | (go_at_call 121; exact Calls.bl_of (HAC.out _))))
            refine wpQuiet_nil ?_
            rintro _ ⟨zq, rfl⟩
            go_wp2
            go_roundg (C.acts.length - (j + 1))
            case measure => rw [HGK.out]; omega
            case rel => exact ⟨j + 1, _, rfl, by omega, by go_num, rfl, fun i x hi hx => by
             by_cases e : i = j
             · subst e
               rw [HAJ.out] at hx
               injection hx with hx
               subst hx
               exact HV.out
             · exact hpre.out i x (by omega) hx⟩
         · obtain rfl : j = C.acts.length := by omega
           have HACT : Hid (C.okActs = true) := okActs_all (fun i x hx => hpre.out i x (List.getElem?_eq_some_iff.1 hx).1 hx)
           clear hpre HGK
           go_wp2
           go_loopg [7] C.off.length (fun gk v7 wr => ∃ (j : Nat) (last : Int) (z : Bl W0), gk = C.off.length - j ∧ j ≤ C.off.length ∧ v7 = .int .i64 j ∧ wr = z.val ∧ -1 ≤ last ∧ Hid ((j = 0 ∧ last = -1) ∨ (∃ i, j = i + 1 ∧ C.off[i]? = some last)) ∧ Hid (offOk C.days (-1) C.off = offOk C.days last (C.off.drop j)))
           case atStart => exact ⟨0, -1, _, rfl, Nat.zero_le _, rfl, rfl, by omega, .inl ⟨rfl, rfl⟩, rfl⟩
           case round =>
            obtain ⟨j, last, z, hgk, hj, rfl, rfl, hl, hlast, hpre⟩ := hrel
            have HGK := Lib.hid hgk; clear hgk
            by_cases hlt : j < C.off.length
            · obtain ⟨b, off, hA0, hbl, hcell⟩ := (HC.out.below HB.out).off.1.form (by omega) (by omega)
              simp only at hA0
              subst hA0
              obtain ⟨d, hd⟩ : ∃ d, C.off[j]? = some d := ⟨C.off[j], List.getElem?_eq_getElem hlt⟩
              have kx : ∀ s : Bl W0, s.val.cell? ⟨b, off + j, none⟩ = some (.int .i64 d) := fun s => s.cell (by rw [hcell _ (by omega)]; simp [ints, hd])
              have HST : Hid (offOk C.days (-1) C.off = (!decide (d ≤ last) && ((!decide (C.days ≤ d)) && offOk C.days d (C.off.drop (j + 1))))) := by show _ = _; rw [hpre.out, drop_get hd]; rfl
              have HD := Lib.hid hd; clear hd
              have j1 : (j : Int) < (C.off.length : Int) := by omega
              cases q1 : decide (d < 0) with
              | true =>
               obtain rfl : E = false := by rw [← HE.out, HCU.out, HP1.out, HHE.out, HACT.out, HST.out, show decide (d ≤ last) = true by rw [decide_eq_true_eq] at q1 ⊢; omega]; rfl
               go_wp2
               refine wp_region_bl (by kernel_rfl) (by kernel_rfl) ?_
               repeat (go_big_quiet_step (first | fail))
               refine wpQuiet_nil ?_
               rintro _ ⟨zq, rfl⟩
               go_wp2
               go_ret
               exact ⟨rfl, Below.step HB.out (Bl.prop _)⟩
              | false =>
               have q1n : 0 ≤ d := by rw [decide_eq_false_iff_not] at q1; omega
               cases q2 : decide (C.days ≤ d) with
               | true =>
                obtain rfl : E = false := by rw [← HE.out, HCU.out, HP1.out, HHE.out, HACT.out, HST.out, q2]; cases decide (d ≤ last) <;> rfl
                go_wp2
                refine wp_region_bl (by kernel_rfl) (by kernel_rfl) ?_
                repeat (go_big_quiet_step (first | fail))
                refine wpQuiet_nil ?_
                rintro _ ⟨zq, rfl⟩
                go_wp2
                go_ret
                exact ⟨rfl, Below.step HB.out (Bl.prop _)⟩
               | false =>
                rcases hlast.out with ⟨hj0, hl0⟩ | ⟨i, rfl, hi⟩
                · have q3 : decide (d ≤ last) = false := by rw [decide_eq_false_iff_not]; omega
                  have q4 : decide ((0 : Int) < (j : Int)) = false := by rw [decide_eq_false_iff_not]; omega
                  have HNX : Hid (offOk C.days (-1) C.off = offOk C.days d (C.off.drop (j + 1))) := by show _ = _; rw [HST.out, q2, q3]; rfl
                  have q5 : decide (0 < j) = false := by rw [decide_eq_false_iff_not]; omega
                  have q6 : ¬ (0 : Int) < (j : Int) := by omega
                  have q7 : ¬ 0 < j := by omega
                  clear hj0 hl0
                  go_wp2
                  refine wp_region_bl (by kernel_rfl) (by kernel_rfl) ?_
                  repeat (go_big_quiet_step (first | fail))
                  refine wpQuiet_nil ?_
                  rintro _ ⟨zq, rfl⟩
                  go_wp2
                  go_roundg (C.off.length - (j + 1))
                  case measure => rw [HGK.out]; omega
                  case rel => exact ⟨j + 1, d, _, rfl, by omega, by go_num, rfl, by omega, .inr ⟨j, rfl, HD.out⟩, HNX.out⟩
                · have ky : ∀ s : Bl W0, s.val.cell? ⟨b, off + i, none⟩ = some (.int .i64 last) := fun s => s.cell (by rw [hcell _ (by omega)]; simp [ints, hi])
                  have q4 : decide ((0 : Int) < ((i + 1 : Nat) : Int)) = true := by rw [decide_eq_true_eq]; omega
                  have q5 : ((i + 1 : Nat) : Int) - 1 = (i : Int) := by omega
                  have i1 : (i : Int) < (C.off.length : Int) := by omega
                  clear hi
                  cases q3 : decide (d ≤ last) with
                  | true =>
                   obtain rfl : E = false := by rw [← HE.out, HCU.out, HP1.out, HHE.out, HACT.out, HST.out, q3]; rfl
                   go_wp2
                   refine wp_region_bl (by kernel_rfl) (by kernel_rfl) ?_
                   repeat (go_big_quiet_step (first | fail))
                   refine wpQuiet_nil ?_
                   rintro _ ⟨zq, rfl⟩
                   go_wp2
                   go_ret
                   exact ⟨rfl, Below.step HB.out (Bl.prop _)⟩
                  | false =>
                   have HNX : Hid (offOk C.days (-1) C.off = offOk C.days d (C.off.drop (i + 1 + 1))) := by show _ = _; rw [HST.out, q2, q3]; rfl
                   go_wp2
                   refine wp_region_bl (by kernel_rfl) (by kernel_rfl) ?_
                   repeat (go_big_quiet_step (first | fail))
                   refine wpQuiet_nil ?_
                   rintro _ ⟨zq, rfl⟩
                   go_wp2
                   go_roundg (C.off.length - (i + 1 + 1))
                   case measure => rw [HGK.out]; omega
                   case rel => exact ⟨i + 1 + 1, d, _, rfl, by omega, by go_num, rfl, by omega, .inr ⟨i + 1, rfl, HD.out⟩, HNX.out⟩
            · obtain rfl : j = C.off.length := by omega
              obtain rfl : E = true := by rw [← HE.out, HCU.out, HP1.out, HHE.out, HACT.out, hpre.out, List.drop_of_length_le (Nat.le_refl _)]; rfl
              go_wp2
              go_ret
              exact ⟨rfl, Below.step HB.out (Bl.prop _)⟩
set_option maxRecDepth 100000 in
set_option maxHeartbeats 4000000 in
theorem rconValid_any (v : CV) (C : KCon) (w : World) (hC : ConAt w v C) : Calls Tryz.prog 84 #[v.val C] w (ConPost C.errno w) := by
 obtain ⟨⟨vhA, vhc⟩, ⟨vuA, vuc⟩, ⟨vaA, vac⟩, ⟨vkA, vkc⟩, ⟨voA, voc⟩⟩ := v
 have hkx : C.clauses.length ≤ 9223372036854775807 := by obtain ⟨_, _, h, _⟩ := hC.clauses; have h1 := h.2.2.1; have h2 := h.2.2.2; unfold maxLen at h2; omega
 have HC := Lib.hid hC; clear hC
 simp only [CV.val, CV.cells]
 generalize hE : C.errno = E
 simp only [KCon.errno] at hE
 have HE := Lib.hid hE; clear hE
 go_enter Tryz.func84, Tryz.ntmps84
 go_upto_region 1 with (fail)
 generalize hW0 : World.alloc _ _ = W0
 obtain ⟨HB, hh0⟩ := bx1 hW0; clear hW0
 obtain ⟨k0_0, k0_1, k0_2, k0_3, k0_4, k0_5, k0_6⟩ := kc7 hh0
 clear hh0
 change Code.wp _ _ _ _ (Bl.val (⟨W0, Below.refl _ _⟩ : Bl W0))
 generalize (⟨W0, Below.refl _ _⟩ : Bl W0) = s0
 have HCL := Lib.hid (fun (i : Nat) (k : KClause) (s : Bl W0) (hk : C.clauses[i]? = some k) => rclause_any (⟨⟨vhA, vhc⟩, ⟨vuA, vuc⟩, ⟨vaA, vac⟩, ⟨vkA, vkc⟩, ⟨voA, voc⟩⟩ : CV) C i k s.val (HC.out.below (Below.step HB.out s.prop)) hk)
 simp only [CV.val, CV.cells] at HCL
 obtain ⟨b1, HP1, hE⟩ : ∃ b, Hid ((C.over) = b) ∧ cond (C.over) true false = b := ⟨_, rfl, (cd_self _).symm⟩
 simp only [KCon.over, cds] at hE
 repeat' (first | (replace hE := cd_t hE (by assumption)) | (replace hE := cd_f hE (by assumption)) | (replace hE := cd_eq hE; rcases hE with ⟨q, q', hE⟩ | ⟨q, q', hE⟩) | (replace hE := cd_any hE; rcases hE with ⟨q, hE⟩ | ⟨q, hE⟩) | fail)
 all_goals first
  | focus
   obtain rfl : b1 = false := hE.symm
   clear hE
   as_aux_lemma =>
    have hu : C.units.length ≤ 1000 := by have h := HP1.out; unfold KCon.over at h; simp only [Bool.or_eq_false_iff, decide_eq_false_iff_not] at h; omega
    have HFR := Lib.hid (fun s : Bl W0 => rrest_any (⟨⟨vhA, vhc⟩, ⟨vuA, vuc⟩, ⟨vaA, vac⟩, ⟨vkA, vkc⟩, ⟨voA, voc⟩⟩ : CV) C s.val (HC.out.below (Below.step HB.out s.prop)) hu)
    simp only [CV.val, CV.cells] at HFR
    clear hu
    go_wp2_with (go_at_call 107; refine (HFR.out _).mono ?_; rintro e z ⟨rfl, hz⟩; obtain ⟨z1, rfl⟩ := Bl.on hz; clear hz; refine Hid.out ?_)
    refine Lib.hid ?_
    clear HFR
    cases hf : C.framed with
    | false =>
     go_wp2
     go_ret2
     exact conpost (by rw [← HE.out, HP1.out, hf]; rfl) (Below.step HB.out (Bl.prop _))
    | true =>
     have HF := Lib.hid hf; clear hf
     go_wp2
     go_loopg [4] C.clauses.length (fun gk v4 wr => ∃ (j : Nat) (z : Bl W0), gk = C.clauses.length - j ∧ j ≤ C.clauses.length ∧ v4 = .int .i64 j ∧ wr = z.val ∧ Hid (∀ (i : Nat) (x : KClause), i < j → C.clauses[i]? = some x → C.okClause i x = true))
     case atStart => exact ⟨0, _, rfl, Nat.zero_le _, rfl, rfl, fun i x h => by omega⟩
     case round =>
      obtain ⟨j, z, hgk, hj, rfl, rfl, hpre⟩ := hrel
      have HGK := Lib.hid hgk; clear hgk
      by_cases hlt : j < C.clauses.length
      · obtain ⟨k, hk⟩ : ∃ k, C.clauses[j]? = some k := ⟨C.clauses[j], List.getElem?_eq_getElem hlt⟩
        have hca := HCL.out j k z hk
        generalize hv : C.okClause j k = vv at hca
        have HV := Lib.hid hv; clear hv
        have HK := Lib.hid hk; clear hk
        have HCA := Lib.hid hca; clear hca
        have j1 : (j : Int) < (C.clauses.length : Int) := by omega
        go_wp2_with (go_at_call 108; refine HCA.out.mono ?_; rintro e y ⟨rfl, hy⟩; obtain ⟨y1, rfl⟩ := Bl.on hy; clear hy; refine Hid.out ?_)
        refine Lib.hid ?_
        clear HCA
        cases vv with
        | false =>
         go_wp2
         go_ret2
         exact conpost (by rw [← HE.out, HP1.out, HF.out, okClauses_bad HK.out HV.out]; rfl) (Below.step HB.out (Bl.prop _))
        | true =>
         go_wp2
         go_roundg (C.clauses.length - (j + 1))
         case measure => rw [HGK.out]; omega
         case rel => exact ⟨j + 1, y1, rfl, by omega, by go_num, rfl, fun i x hi hx => by
          by_cases e : i = j
          · subst e
            rw [HK.out] at hx
            injection hx with hx
            subst hx
            exact HV.out
          · exact hpre.out i x (by omega) hx⟩
      · obtain rfl : j = C.clauses.length := by omega
        have HACT : Hid (C.okClauses = true) := okClauses_all (fun i x hx => hpre.out i x (List.getElem?_eq_some_iff.1 hx).1 hx)
        go_wp2
        go_ret2
        exact conpost (by rw [← HE.out, HP1.out, HF.out, HACT.out]; rfl) (Below.step HB.out z.prop)
  | focus
   obtain rfl : b1 = true := hE.symm
   clear hE
   as_aux_lemma =>
    go_wp2
    go_ret2
    exact conpost (by rw [← HE.out, HP1.out]; rfl) (Below.step HB.out (Bl.prop _))
theorem rright13_any (v : CV) (C : KCon) (w : World) (hC : ConAt w v C) : Calls Tryz.prog 58 #[v.val C] w (RetB (.bool C.valid) w) := by
 obtain ⟨⟨vhA, vhc⟩, ⟨vuA, vuc⟩, ⟨vaA, vac⟩, ⟨vkA, vkc⟩, ⟨voA, voc⟩⟩ := v
 have HC := Lib.hid hC; clear hC
 simp only [CV.val, CV.cells]
 generalize hE : C.valid = E
 have HE := Lib.hid hE; clear hE
 go_enter Tryz.func58, Tryz.ntmps58
 go_upto_region 1 with (fail)
 generalize hW0 : World.alloc _ _ = W0
 obtain ⟨HB, hh0⟩ := bx1 hW0; clear hW0
 obtain ⟨k0_0, k0_1, k0_2, k0_3, k0_4, k0_5, k0_6⟩ := kc7 hh0
 clear hh0
 change Code.wp _ _ _ _ (Bl.val (⟨W0, Below.refl _ _⟩ : Bl W0))
 generalize (⟨W0, Below.refl _ _⟩ : Bl W0) = s0
 have HCV := Lib.hid (fun z : Bl W0 => rconValid_any (⟨⟨vhA, vhc⟩, ⟨vuA, vuc⟩, ⟨vaA, vac⟩, ⟨vkA, vkc⟩, ⟨voA, voc⟩⟩ : CV) C z.val (HC.out.below (Below.step HB.out z.prop)))
 simp only [CV.val, CV.cells] at HCV
 go_wp2_with (go_at_call 84; refine (HCV.out _).mono ?_; rintro e z ⟨n, rfl, hz⟩; obtain ⟨z1, rfl⟩ := Bl.on hz; clear hz; refine Hid.out ?_)
 refine Lib.hid ?_
 cases hv : C.valid with
 | false =>
  obtain ⟨f1, f2⟩ := KCon.errno_no hv
  obtain rfl : E = false := by rw [← HE.out, hv]
  clear hv
  go_wp2
  go_ret
  exact ⟨rfl, Below.step HB.out (Bl.prop _)⟩
 | true =>
  rw [KCon.errno_yes hv]
  obtain rfl : E = true := by rw [← HE.out, hv]
  clear hv
  go_wp2
  go_ret
  exact ⟨rfl, Below.step HB.out (Bl.prop _)⟩
end Go.Proofs.YtaielhafpmjkaaaGreatDoor
namespace Go.Proofs.YtaielhafpmjkaaaGreatDoor
open Go.RowKit
theorem valid_conds2 {C : KCon} (h : C.valid = true) {i : Nat} {k : KClause} (hk : C.clauses[i]? = some k) : ∀ c ∈ k.start, (0 ≤ c.clause ∧ c.clause < C.clauses.length) ∧ 1 ≤ c.is ∧ c.is ≤ 4 := by
 unfold KCon.valid at h
 simp only [Bool.and_eq_true] at h
 have h1 := okClauses_at h.2.2 hk
 unfold KCon.okClause at h1
 simp only [Bool.and_eq_true] at h1
 have h2 := h1.2.1
 unfold condsOk at h2
 intro c hc
 have h3 := List.all_eq_true.1 h2 c hc
 simp only [condOkB, Bool.and_eq_true, Bool.not_eq_true', decide_eq_false_iff_not] at h3
 omega
theorem valid_need {C : KCon} (h : C.valid = true) {i : Nat} {k : KClause} (hk : C.clauses[i]? = some k) : k.kind = 1 → 1 ≤ k.need := by
 unfold KCon.valid at h
 simp only [Bool.and_eq_true] at h
 have h1 := okClauses_at h.2.2 hk
 unfold KCon.okClause at h1
 simp only [Bool.and_eq_true] at h1
 have h2 := h1.1
 rw [← rC1_eq] at h2
 unfold rC1 at h2
 simp only [Bool.and_eq_true, Bool.not_eq_true', Bool.or_eq_false_iff, decide_eq_false_iff_not] at h2
 intro _
 omega
theorem rgood_any (v : CV) (C : KCon) (w : World) (hC : ConAt w v C) : Calls Tryz.prog 85 #[v.val C] w (RetB (.bool C.valid) w) := by
 obtain ⟨⟨vhA, vhc⟩, ⟨vuA, vuc⟩, ⟨vaA, vac⟩, ⟨vkA, vkc⟩, ⟨voA, voc⟩⟩ := v
 have HC := Lib.hid hC; clear hC
 simp only [CV.val, CV.cells]
 generalize hE : C.valid = E
 have HE := Lib.hid hE; clear hE
 go_enter Tryz.func85, Tryz.ntmps85
 go_upto_region 1 with (fail)
 generalize hW0 : World.alloc _ _ = W0
 obtain ⟨HB, hh0⟩ := bx1 hW0; clear hW0
 obtain ⟨k0_0, k0_1, k0_2, k0_3, k0_4, k0_5, k0_6⟩ := kc7 hh0
 clear hh0
 change Code.wp _ _ _ _ (Bl.val (⟨W0, Below.refl _ _⟩ : Bl W0))
 generalize (⟨W0, Below.refl _ _⟩ : Bl W0) = s0
 have HCV := Lib.hid (fun z : Bl W0 => rconValid_any (⟨⟨vhA, vhc⟩, ⟨vuA, vuc⟩, ⟨vaA, vac⟩, ⟨vkA, vkc⟩, ⟨voA, voc⟩⟩ : CV) C z.val (HC.out.below (Below.step HB.out z.prop)))
 simp only [CV.val, CV.cells] at HCV
 go_wp2_with (go_at_call 84; refine (HCV.out _).mono ?_; rintro e z ⟨n, rfl, hz⟩; obtain ⟨z1, rfl⟩ := Bl.on hz; clear hz; refine Hid.out ?_)
 refine Lib.hid ?_
 cases hv : C.valid with
 | false =>
  obtain ⟨f1, f2⟩ := KCon.errno_no hv
  obtain rfl : E = false := by rw [← HE.out, hv]
  clear hv
  go_wp2
  go_ret
  exact ⟨rfl, Below.step HB.out (Bl.prop _)⟩
 | true =>
  rw [KCon.errno_yes hv]
  obtain rfl : E = true := by rw [← HE.out, hv]
  clear hv
  go_wp2
  go_ret
  exact ⟨rfl, Below.step HB.out (Bl.prop _)⟩
theorem sv1_bad (C : KCon) (s : KState) : sv1 C s = !(decide (s.day < 0) || (decide (C.days < s.day) || ((!((s.holders.length : Int) == (C.holders.length : Int))) || ((!((s.used.length : Int) == (C.acts.length : Int))) || (!((s.marks.length : Int) == (C.clauses.length : Int))))))) := by
 unfold sv1
 cases decide (s.day < 0) <;> cases decide (C.days < s.day) <;> cases ((s.holders.length : Int) == (C.holders.length : Int)) <;> cases ((s.used.length : Int) == (C.acts.length : Int)) <;> cases ((s.marks.length : Int) == (C.clauses.length : Int)) <;> rfl
set_option maxRecDepth 100000 in
set_option maxHeartbeats 8000000 in
theorem rstateValid_any (v : CV) (C : KCon) (tv : TV) (s : KState) (w : World) (hC : ConAt w v C) (hS : StateAt w tv s) : Calls Tryz.prog 59 #[v.val C, tv.val s] w (RetB (.bool (C.okState s)) w) := by
 obtain ⟨⟨vhA, vhc⟩, ⟨vuA, vuc⟩, ⟨vaA, vac⟩, ⟨vkA, vkc⟩, ⟨voA, voc⟩⟩ := v
 obtain ⟨⟨shA, shc⟩, ⟨suA, suc⟩, ⟨smA, smc⟩⟩ := tv
 have hhx : s.holders.length ≤ 9223372036854775807 := by have h1 := hS.holders.2.2.1; have h2 := hS.holders.2.2.2; unfold maxLen at h2; omega
 have hux : s.used.length ≤ 9223372036854775807 := by have h1 := hS.used.2.2.1; have h2 := hS.used.2.2.2; unfold maxLen at h2; omega
 have hmx : s.marks.length ≤ 9223372036854775807 := by have h1 := hS.marks.2.2.1; have h2 := hS.marks.2.2.2; unfold maxLen at h2; omega
 have HC := Lib.hid hC; clear hC
 have HS := Lib.hid hS; clear hS
 simp only [CV.val, CV.cells, TV.val, TV.cells, KState.cells]
 generalize hE : C.okState s = E
 simp only [KCon.okState] at hE
 have HE := Lib.hid hE; clear hE
 go_enter Tryz.func59, Tryz.ntmps59
 go_upto_region 1 with (fail)
 generalize hW0 : World.alloc _ _ = W0
 obtain ⟨HB, hh0, hh1⟩ := bx2 hW0; clear hW0
 obtain ⟨k0_0, k0_1, k0_2, k0_3, k0_4, k0_5, k0_6⟩ := kc7 hh0
 clear hh0
 obtain ⟨k1_0, k1_1, k1_2, k1_3⟩ := kc4 hh1
 clear hh1
 change Code.wp _ _ _ _ (Bl.val (⟨W0, Below.refl _ _⟩ : Bl W0))
 generalize (⟨W0, Below.refl _ _⟩ : Bl W0) = s0
 have HGO := Lib.hid (fun z : Bl W0 => rgood_any (⟨⟨vhA, vhc⟩, ⟨vuA, vuc⟩, ⟨vaA, vac⟩, ⟨vkA, vkc⟩, ⟨voA, voc⟩⟩ : CV) C z.val (HC.out.below (Below.step HB.out z.prop)))
 simp only [CV.val, CV.cells] at HGO
 obtain ⟨b0, HP0⟩ : ∃ b, Hid (((!C.valid) || (decide (s.day < 0) || (decide (C.days < s.day) || ((!((s.holders.length : Int) == (C.holders.length : Int))) || ((!((s.used.length : Int) == (C.acts.length : Int))) || (!((s.marks.length : Int) == (C.clauses.length : Int)))))))) = b) := ⟨_, rfl⟩
 go_upto_region 1 with (fail)
 go_cut [50] (fun c wx => c = .bool b0 ∧ ∃ z : Bl W0, wx = z.val)
 case first =>
  have hE := (cd_self ((!C.valid) || (decide (s.day < 0) || (decide (C.days < s.day) || ((!((s.holders.length : Int) == (C.holders.length : Int))) || ((!((s.used.length : Int) == (C.acts.length : Int))) || (!((s.marks.length : Int) == (C.clauses.length : Int))))))))).symm.trans HP0.out
  simp only [cds] at hE
  repeat' (first | (replace hE := cd_t hE (by assumption)) | (replace hE := cd_f hE (by assumption)) | (replace hE := cd_eq hE; rcases hE with ⟨q, q', hE⟩ | ⟨q, q', hE⟩) | (replace hE := cd_any hE; rcases hE with ⟨q, hE⟩ | ⟨q, hE⟩) | fail)
  all_goals
   subst hE
   as_aux_lemma =>
    go_wp2_with (first | (go_at_call 85; refine (lit (HGO.out _) (by assumption)).mono ?_; rintro e z ⟨rfl, hz⟩; obtain ⟨z, rfl⟩ := Bl.on hz; clear hz) | (go_at_call 85; refine (HGO.out _).mono ?_; rintro e z ⟨rfl, hz⟩; obtain ⟨z, rfl⟩ := Bl.on hz; clear hz))
    go_meet
    exact ⟨rfl, _, rfl⟩
 case rest =>
  obtain ⟨rfl, z0, rfl⟩ := hcut
  cases b0 with
  | false =>
   as_aux_lemma =>
    obtain ⟨HV, HP1⟩ : Hid (C.valid = true) ∧ Hid (sv1 C s = true) := by
     have h := HP0.out
     rw [Bool.or_eq_false_iff] at h
     exact ⟨(by simpa using h.1 : C.valid = true), by show _ = _; rw [sv1_bad, h.2]; rfl⟩
    clear HGO HP0
    have HMM : Hid (s.marks.length = C.clauses.length) := by
     have h := HP1.out
     unfold sv1 at h
     simp only [Bool.and_eq_true, beq_iff_eq] at h
     show _ = _
     omega
    have HUM : Hid (s.used.length = C.acts.length) := by
     have h := HP1.out
     unfold sv1 at h
     simp only [Bool.and_eq_true, beq_iff_eq] at h
     show _ = _
     omega
    go_wp2
    go_loopg [5] s.holders.length (fun gk v5 wr => ∃ (j : Nat) (z : Bl W0), gk = s.holders.length - j ∧ j ≤ s.holders.length ∧ v5 = .int .i64 j ∧ wr = z.val ∧ Hid (∀ (i : Nat) (x : Int), i < j → s.holders[i]? = some x → holdOk C x = true))
    case atStart => exact ⟨0, _, rfl, Nat.zero_le _, rfl, rfl, fun i x h => by omega⟩
    case round =>
     obtain ⟨j, z, hgk, hj, rfl, rfl, hpre⟩ := hrel
     have HGK := Lib.hid hgk; clear hgk
     by_cases hlt : j < s.holders.length
     · obtain ⟨b, off, hA0, hbl, hcell⟩ := (HS.out.below HB.out).holders.1.form (by omega) (by omega)
       simp only at hA0
       subst hA0
       obtain ⟨d, hd⟩ : ∃ d, s.holders[j]? = some d := ⟨s.holders[j], List.getElem?_eq_getElem hlt⟩
       have kx : ∀ z : Bl W0, z.val.cell? ⟨b, off + j, none⟩ = some (.int .i64 d) := fun z => z.cell (by rw [hcell _ (by omega)]; simp [ints, hd])
       clear hcell
       have HD := Lib.hid hd; clear hd
       have j1 : (j : Int) < (s.holders.length : Int) := by omega
       obtain ⟨b2, HP2, hE⟩ : ∃ b, Hid ((holdOk C d) = b) ∧ cond (holdOk C d) true false = b := ⟨_, rfl, (cd_self _).symm⟩
       simp only [holdOk, cds] at hE
       repeat' (first | (replace hE := cd_t hE (by assumption)) | (replace hE := cd_f hE (by assumption)) | (replace hE := cd_eq hE; rcases hE with ⟨q, q', hE⟩ | ⟨q, q', hE⟩) | (replace hE := cd_any hE; rcases hE with ⟨q, hE⟩ | ⟨q, hE⟩) | fail)
       all_goals first
        | focus
         obtain rfl : b2 = false := hE.symm
         clear hE
         as_aux_lemma =>
          obtain rfl : E = false := by rw [← HE.out, HV.out, HP1.out, sHolders_bad HD.out HP2.out]; rfl
          go_wp2
          refine wp_region_bl (by kernel_rfl) (by kernel_rfl) ?_
          repeat (go_big_quiet_step (first | fail))
          refine wpQuiet_nil ?_
          rintro _ ⟨zq, rfl⟩
          go_wp2
          go_ret
          exact ⟨rfl, Below.step HB.out (Bl.prop _)⟩
        | focus
         obtain rfl : b2 = true := hE.symm
         clear hE
         as_aux_lemma =>
          have HN := HP2
          go_wp2
          refine wp_region_bl (by kernel_rfl) (by kernel_rfl) ?_
          repeat (go_big_quiet_step (first | fail))
          refine wpQuiet_nil ?_
          rintro _ ⟨zq, rfl⟩
          go_wp2
          go_roundg (s.holders.length - (j + 1))
          case measure => rw [HGK.out]; omega
          case rel => exact ⟨j + 1, _, rfl, by omega, by go_num, rfl, fun i x hi hx => by
           by_cases e : i = j
           · subst e
             rw [HD.out] at hx
             injection hx with hx
             subst hx
             exact HN.out
           · exact hpre.out i x (by omega) hx⟩
     · obtain rfl : j = s.holders.length := by omega
       have HSH : Hid (sHolders C s = true) := sHolders_all (fun i x hx => hpre.out i x (List.getElem?_eq_some_iff.1 hx).1 hx)
       clear hpre HGK
       go_wp2
       go_loopg [6] s.used.length (fun gk v6 wr => ∃ (j : Nat) (z : Bl W0), gk = s.used.length - j ∧ j ≤ s.used.length ∧ v6 = .int .i64 j ∧ wr = z.val ∧ Hid (∀ (i : Nat) (u : Bool) (a : KAct), i < j → s.used[i]? = some u → C.acts[i]? = some a → (u && (a.kind == 1)) = false))
       case atStart => exact ⟨0, _, rfl, Nat.zero_le _, rfl, rfl, fun i u a h => by omega⟩
       case round =>
        obtain ⟨j, z, hgk, hj, rfl, rfl, hpre⟩ := hrel
        have HGK := Lib.hid hgk; clear hgk
        by_cases hlt : j < s.used.length
        · obtain ⟨ub, uo, hU0, hub, huc⟩ := (HS.out.below HB.out).used.1.form (by omega) (by omega)
          obtain ⟨a, ha⟩ : ∃ a, C.acts[j]? = some a := ⟨C.acts[j]'(by rw [← HUM.out]; exact hlt), List.getElem?_eq_getElem _⟩
          obtain ⟨b, off, hA0, hb, hcell⟩ := HC.out.act ha
          simp only at hU0 hA0
          subst hU0 hA0
          obtain ⟨u, hu⟩ : ∃ u, s.used[j]? = some u := ⟨s.used[j], List.getElem?_eq_getElem hlt⟩
          have e0 : ∀ z : Bl W0, z.val.cell? ⟨ub, uo + j, none⟩ = some (.bool u) := fun z => z.cell (by rw [huc _ (by omega)]; simp [bools, hu])
          have e1 : ∀ z : Bl W0, z.val.cell? ⟨b, off + j * 7, none⟩ = some (.int .i64 a.kind) := fun z => hcell z.val (Below.step HB.out z.prop) 0 (by omega)
          clear huc hcell
          have HU := Lib.hid hu; clear hu
          have HA := Lib.hid ha; clear ha
          have j1 : (j : Int) < (s.used.length : Int) := by omega
          have j2 : (j : Int) < (C.acts.length : Int) := by have := HUM.out; omega
          obtain ⟨b2, HP2, hE⟩ : ∃ b, Hid ((u && (a.kind == 1)) = b) ∧ cond (u && (a.kind == 1)) true false = b := ⟨_, rfl, (cd_self _).symm⟩
          simp only [cds] at hE
          repeat' (first | (replace hE := cd_t hE (by assumption)) | (replace hE := cd_f hE (by assumption)) | (replace hE := cd_eq hE; rcases hE with ⟨q, q', hE⟩ | ⟨q, q', hE⟩) | (replace hE := cd_any hE; rcases hE with ⟨q, hE⟩ | ⟨q, hE⟩) | fail)
          all_goals first
           | focus
            obtain rfl : b2 = false := hE.symm
            clear hE
            as_aux_lemma =>
             have HN := HP2
             go_wp2
             go_roundg (s.used.length - (j + 1))
             case measure => rw [HGK.out]; omega
             case rel => exact ⟨j + 1, _, rfl, by omega, by go_num, rfl, fun i u' a' hi hx hy => by
              by_cases e : i = j
              · subst e
                rw [HU.out] at hx
                rw [HA.out] at hy
                injection hx with hx
                injection hy with hy
                subst hx hy
                exact HN.out
              · exact hpre.out i u' a' (by omega) hx hy⟩
           | focus
            obtain rfl : b2 = true := hE.symm
            clear hE
            as_aux_lemma =>
             obtain ⟨q1, q2⟩ : u = true ∧ (a.kind == 1) = true := by have h := HP2.out; rwa [Bool.and_eq_true] at h
             obtain rfl : E = false := by rw [← HE.out, HV.out, HP1.out, HSH.out, sUsed_bad (by rw [HU.out, q1]) HA.out q2]; rfl
             go_wp2
             go_ret
             exact ⟨rfl, Below.step HB.out (Bl.prop _)⟩
        · obtain rfl : j = s.used.length := by omega
          have HSU : Hid (sUsed C s = true) := sUsed_all (fun i u a hx hy => hpre.out i u a (List.getElem?_eq_some_iff.1 hx).1 hx hy)
          clear hpre HGK
          go_wp2
          go_loopg [7] s.marks.length (fun gk v7 wr => ∃ (j : Nat) (z : Bl W0), gk = s.marks.length - j ∧ j ≤ s.marks.length ∧ v7 = .int .i64 j ∧ wr = z.val ∧ Hid (∀ (i : Nat) (m : KMark) (k : KClause), i < j → s.marks[i]? = some m → C.clauses[i]? = some k → C.okMark k m = true))
          case atStart => exact ⟨0, _, rfl, Nat.zero_le _, rfl, rfl, fun i m k h => by omega⟩
          case round =>
           obtain ⟨j, z, hgk, hj, rfl, rfl, hpre⟩ := hrel
           have HGK := Lib.hid hgk; clear hgk
           by_cases hlt : j < s.marks.length
           · obtain ⟨m, hm⟩ : ∃ m, s.marks[j]? = some m := ⟨s.marks[j], List.getElem?_eq_getElem hlt⟩
             obtain ⟨k, hk⟩ : ∃ k, C.clauses[j]? = some k := ⟨C.clauses[j]'(by rw [← HMM.out]; exact hlt), List.getElem?_eq_getElem _⟩
             have HNE := Lib.hid (valid_need HV.out hk)
             obtain ⟨mb, moff, hM0, hmb, hmc⟩ := HS.out.mark hm
             obtain ⟨b, off, ⟨stA, stc⟩, hA0, hb, hcell, _⟩ := HC.out.clause hk
             simp only at hM0 hA0
             subst hM0 hA0
             have HM := Lib.hid hm
             have HK := Lib.hid hk; clear hk
             obtain ⟨ki, ro, ac, ne, start, af, gr, bu, fi, pa, re, ⟨vn, vd⟩, un, tg, wa⟩ := k
             obtain ⟨ms, ml, mg, mbr, mp⟩ := m
             obtain ⟨c0, c1, c2, c3, c4, c5, c6, c7, c8, c9, c10, c11, c12, c13, c14, c15⟩ := rz16 (fun z hz => hcell z (Below.step HB.out hz)) rfl
             obtain ⟨e0, e1, e2, e3, e4⟩ := rz5 (fun z hz => hmc j _ hm z (Below.step HB.out hz)) rfl
             clear hcell hmc hm
             have HMK := Lib.hid (fun z : Bl W0 => rmark_raw (⟨⟨vhA, vhc⟩, ⟨vuA, vuc⟩, ⟨vaA, vac⟩, ⟨some ⟨b, off, none⟩, vkc⟩, ⟨voA, voc⟩⟩ : CV) C ki ro ac ne ⟨stA, stc⟩ start.length af gr bu fi pa re vn vd un tg wa ms ml mg mbr mp z.val)
             simp only [CV.val, CV.cells, rMarkB_eq C ki ne af gr pa wa ms ml mg mbr mp HNE.out] at HMK
             have j1 : (j : Int) < (s.marks.length : Int) := by omega
             have j2 : (j : Int) < (C.clauses.length : Int) := by have := HMM.out; omega
             cases q : okMarkB C ki ne af gr pa wa ms ml mg mbr mp with
             | false =>
              obtain rfl : E = false := by rw [← HE.out, HV.out, HP1.out, HSH.out, HSU.out, sMarks_bad HM.out HK.out (by show (okMarkB C ki ne af gr pa wa ms ml mg mbr mp && _) = false; rw [q]; rfl)]; rfl
              rw [q] at HMK
              go_wp2
              refine wp_region_bl (by kernel_rfl) (by kernel_rfl) ?_
              repeat (go_big_quiet_step (first | (go_at_call 86; exact Calls.bl_of (lit (HMK.out _) (by assumption))) | (go_at_call 86; exact Calls.bl_of (HMK.out _))))
              refine wpQuiet_nil ?_
              rintro _ ⟨zq, rfl⟩
              go_wp2
              go_ret
              exact ⟨rfl, Below.step HB.out (Bl.prop _)⟩
             | true =>
              have HQ : Hid (C.okMark ⟨ki, ro, ac, ne, start, af, gr, bu, fi, pa, re, ⟨vn, vd⟩, un, tg, wa⟩ ⟨ms, ml, mg, mbr, mp⟩ = true) := q
              rw [q] at HMK
              go_wp2
              refine wp_region_bl (by kernel_rfl) (by kernel_rfl) ?_
              repeat (go_big_quiet_step (first | (go_at_call 86; exact Calls.bl_of (lit (HMK.out _) (by assumption))) | (go_at_call 86; exact Calls.bl_of (HMK.out _))))
              refine wpQuiet_nil ?_
              rintro _ ⟨zq, rfl⟩
              go_wp2
              go_roundg (s.marks.length - (j + 1))
              case measure => rw [HGK.out]; omega
              case rel => exact ⟨j + 1, _, rfl, by omega, by go_num, rfl, fun i m' k' hi hx hy => by
               by_cases e : i = j
               · subst e
                 rw [HM.out] at hx
                 rw [HK.out] at hy
                 injection hx with hx
                 injection hy with hy
                 subst hx hy
                 exact HQ.out
               · exact hpre.out i m' k' (by omega) hx hy⟩
           · obtain rfl : j = s.marks.length := by omega
             have HMO : Hid (∀ (i : Nat) (m : KMark) (k : KClause), s.marks[i]? = some m → C.clauses[i]? = some k → C.okMark k m = true) := fun i m k hx hy => hpre.out i m k (List.getElem?_eq_some_iff.1 hx).1 hx hy
             clear hpre HGK
             go_wp2
             go_loopg [8] s.marks.length (fun gk v8 wr => ∃ (j : Nat) (z : Bl W0), gk = s.marks.length - j ∧ j ≤ s.marks.length ∧ v8 = .int .i64 j ∧ wr = z.val ∧ Hid (∀ (i : Nat) (m : KMark) (k : KClause), i < j → s.marks[i]? = some m → C.clauses[i]? = some k → readyK s.marks k m = false))
             case atStart => exact ⟨0, _, rfl, Nat.zero_le _, rfl, rfl, fun i m k h => by omega⟩
             case round =>
              obtain ⟨j, z, hgk, hj, rfl, rfl, hpre⟩ := hrel
              have HGK := Lib.hid hgk; clear hgk
              by_cases hlt : j < s.marks.length
              · obtain ⟨m, hm⟩ : ∃ m, s.marks[j]? = some m := ⟨s.marks[j], List.getElem?_eq_getElem hlt⟩
                obtain ⟨k, hk⟩ : ∃ k, C.clauses[j]? = some k := ⟨C.clauses[j]'(by rw [← HMM.out]; exact hlt), List.getElem?_eq_getElem _⟩
                have HRE := Lib.hid (fun z : Bl W0 => rready_any (⟨⟨vhA, vhc⟩, ⟨vuA, vuc⟩, ⟨vaA, vac⟩, ⟨vkA, vkc⟩, ⟨voA, voc⟩⟩ : CV) C ⟨smA, smc⟩ s.marks j k m z.val (HC.out.below (Below.step HB.out z.prop)) (HS.out.below (Below.step HB.out z.prop)).marks hk hm (fun c hc => by rw [HMM.out]; exact valid_conds2 HV.out hk c hc))
                simp only [CV.val, CV.cells] at HRE
                have HM := Lib.hid hm; clear hm
                have HK := Lib.hid hk; clear hk
                have j1 : (j : Int) < (s.marks.length : Int) := by omega
                cases q : readyK s.marks k m with
                | true =>
                 obtain rfl : E = false := by rw [← HE.out, HV.out, HP1.out, HSH.out, HSU.out, sMarks_bad HM.out HK.out (by rw [q, Bool.not_true, Bool.and_false])]; rfl
                 rw [q] at HRE
                 go_wp2_with (first | (go_at_call 87; refine (lit (HRE.out _) (by assumption)).mono ?_; rintro e z ⟨rfl, hz⟩; obtain ⟨z, rfl⟩ := Bl.on hz; clear hz) | (go_at_call 87; refine (HRE.out _).mono ?_; rintro e z ⟨rfl, hz⟩; obtain ⟨z, rfl⟩ := Bl.on hz; clear hz))
                 go_ret
                 exact ⟨rfl, Below.step HB.out (Bl.prop _)⟩
                | false =>
                 have HQ := Lib.hid q
                 rw [q] at HRE
                 go_wp2_with (first | (go_at_call 87; refine (lit (HRE.out _) (by assumption)).mono ?_; rintro e z ⟨rfl, hz⟩; obtain ⟨z, rfl⟩ := Bl.on hz; clear hz) | (go_at_call 87; refine (HRE.out _).mono ?_; rintro e z ⟨rfl, hz⟩; obtain ⟨z, rfl⟩ := Bl.on hz; clear hz))
                 go_roundg (s.marks.length - (j + 1))
                 case measure => rw [HGK.out]; omega
                 case rel => exact ⟨j + 1, _, rfl, by omega, by go_num, rfl, fun i m' k' hi hx hy => by
                  by_cases e : i = j
                  · subst e
                    rw [HM.out] at hx
                    rw [HK.out] at hy
                    injection hx with hx
                    injection hy with hy
                    subst hx hy
                    exact HQ.out
                  · exact hpre.out i m' k' (by omega) hx hy⟩
              · obtain rfl : j = s.marks.length := by omega
                have hsm : sMarks C s = true := sMarks_all (fun i m k hx hy => by rw [HMO.out i m k hx hy, hpre.out i m k (List.getElem?_eq_some_iff.1 hx).1 hx hy]; rfl)
                obtain rfl : E = true := by rw [← HE.out, HV.out, HP1.out, HSH.out, HSU.out, hsm]; rfl
                clear hsm
                go_wp2
                go_ret
                exact ⟨rfl, Below.step HB.out (Bl.prop _)⟩
  | true =>
   as_aux_lemma =>
    obtain rfl : E = false := by
     have h := HP0.out
     rw [← HE.out]
     rw [Bool.or_eq_true] at h
     rcases h with h | h
     · rw [show C.valid = false by simpa using h]; rfl
     · rw [sv1_bad, h]; cases C.valid <;> rfl
    go_wp2
    go_ret
    exact ⟨rfl, Below.step HB.out (Bl.prop _)⟩
theorem rbreach_eq (C : KCon) (s : KState) (p : Int) : (C.okState s && ((!decide (p < 0)) && anyFailed C s p)) = C.breach s p := by
 unfold KCon.breach br1
 cases h : C.okState s with
 | false => cases decide (p < 0) <;> cases decide (C.parties ≤ p) <;> rfl
 | true =>
  cases h2 : decide (C.parties ≤ p) with
  | false => cases decide (p < 0) <;> rfl
  | true =>
   rw [decide_eq_true_eq] at h2
   have h3 : anyFailed C s p = false := anyFailed_no (fun j m k hm hk => by
    have h4 : sMarks C s = true := by unfold KCon.okState at h; simp only [Bool.and_eq_true] at h; exact h.2.2.2.2
    cases e : failedBy k m p with
    | false => rfl
    | true =>
     unfold failedBy at e
     simp only [Bool.and_eq_true, beq_iff_eq] at e
     obtain ⟨_, e1, e2⟩ := e
     have h5 : (C.okMark k m && !(readyK s.marks k m)) = true := by
      cases e5 : (C.okMark k m && !(readyK s.marks k m)) with
      | true => rfl
      | false => rw [sMarks_bad hm hk e5] at h4; cases h4
     simp only [Bool.and_eq_true] at h5
     have h6 := h5.1
     unfold KCon.okMark okMarkB at h6
     rw [e1] at h6
     simp at h6
     omega)
   rw [h3]
   cases decide (p < 0) <;> rfl
set_option maxRecDepth 100000 in
set_option maxHeartbeats 4000000 in
theorem rbreach_any (v : CV) (C : KCon) (tv : TV) (s : KState) (p : Int) (w : World) (hC : ConAt w v C) (hS : StateAt w tv s) : Calls Tryz.prog 42 #[v.val C, tv.val s, .int .i64 p] w (RetB (.bool (C.breach s p)) w) := by
 rw [← rbreach_eq]
 obtain ⟨⟨vhA, vhc⟩, ⟨vuA, vuc⟩, ⟨vaA, vac⟩, ⟨vkA, vkc⟩, ⟨voA, voc⟩⟩ := v
 obtain ⟨⟨shA, shc⟩, ⟨suA, suc⟩, ⟨smA, smc⟩⟩ := tv
 have hhx : s.holders.length ≤ 9223372036854775807 := by have h1 := hS.holders.2.2.1; have h2 := hS.holders.2.2.2; unfold maxLen at h2; omega
 have hux : s.used.length ≤ 9223372036854775807 := by have h1 := hS.used.2.2.1; have h2 := hS.used.2.2.2; unfold maxLen at h2; omega
 have hmx : s.marks.length ≤ 9223372036854775807 := by have h1 := hS.marks.2.2.1; have h2 := hS.marks.2.2.2; unfold maxLen at h2; omega
 clear hhx hux
 have HC := Lib.hid hC; clear hC
 have HS := Lib.hid hS; clear hS
 simp only [CV.val, CV.cells, TV.val, TV.cells, KState.cells]
 generalize hE : (C.okState s && ((!decide (p < 0)) && anyFailed C s p)) = E
 have HE := Lib.hid hE; clear hE
 go_enter Tryz.func42, Tryz.ntmps42
 go_upto_region 1 with (fail)
 generalize hW0 : World.alloc _ _ = W0
 obtain ⟨HB, hh0, hh1⟩ := bx2 hW0; clear hW0
 obtain ⟨k0_0, k0_1, k0_2, k0_3, k0_4, k0_5, k0_6⟩ := kc7 hh0
 clear hh0
 obtain ⟨k1_0, k1_1, k1_2, k1_3⟩ := kc4 hh1
 clear hh1
 change Code.wp _ _ _ _ (Bl.val (⟨W0, Below.refl _ _⟩ : Bl W0))
 generalize (⟨W0, Below.refl _ _⟩ : Bl W0) = s0
 have HSV := Lib.hid (fun z : Bl W0 => rstateValid_any (⟨⟨vhA, vhc⟩, ⟨vuA, vuc⟩, ⟨vaA, vac⟩, ⟨vkA, vkc⟩, ⟨voA, voc⟩⟩ : CV) C (⟨⟨shA, shc⟩, ⟨suA, suc⟩, ⟨smA, smc⟩⟩ : TV) s z.val (HC.out.below (Below.step HB.out z.prop)) (HS.out.below (Below.step HB.out z.prop)))
 simp only [CV.val, CV.cells, TV.val, TV.cells, KState.cells] at HSV
 obtain ⟨b1, HP1, hE⟩ : ∃ b, Hid ((C.okState s && (!decide (p < 0))) = b) ∧ cond (C.okState s && (!decide (p < 0))) true false = b := ⟨_, rfl, (cd_self _).symm⟩
 simp only [cds] at hE
 repeat' (first | (replace hE := cd_t hE (by assumption)) | (replace hE := cd_f hE (by assumption)) | (replace hE := cd_eq hE; rcases hE with ⟨q, q', hE⟩ | ⟨q, q', hE⟩) | (replace hE := cd_any hE; rcases hE with ⟨q, hE⟩ | ⟨q, hE⟩) | fail)
 all_goals first
  | focus
   obtain rfl : b1 = false := hE.symm
   clear hE
   as_aux_lemma =>
    obtain rfl : E = false := by rw [← HE.out, ← Bool.and_assoc, HP1.out]; rfl
    go_wp2_with (first | (go_at_call 59; refine (lit (HSV.out _) (by assumption)).mono ?_; rintro e z ⟨rfl, hz⟩; obtain ⟨z, rfl⟩ := Bl.on hz; clear hz) | (go_at_call 59; refine (HSV.out _).mono ?_; rintro e z ⟨rfl, hz⟩; obtain ⟨z, rfl⟩ := Bl.on hz; clear hz))
    first
     | (go_ret; exact ⟨rfl, Below.step HB.out (Bl.prop _)⟩)
     | (refine wp_region_bl (by kernel_rfl) (by kernel_rfl) ?_; repeat (go_big_quiet_step (first | (go_at_call 59; exact Calls.bl_of (lit (HSV.out _) (by assumption))) | (go_at_call 59; exact Calls.bl_of (HSV.out _)))); refine wpQuiet_nil ?_; rintro _ ⟨zq, rfl⟩; go_wp2_with (first | (go_at_call 59; refine (lit (HSV.out _) (by assumption)).mono ?_; rintro e z ⟨rfl, hz⟩; obtain ⟨z, rfl⟩ := Bl.on hz; clear hz) | (go_at_call 59; refine (HSV.out _).mono ?_; rintro e z ⟨rfl, hz⟩; obtain ⟨z, rfl⟩ := Bl.on hz; clear hz)); go_ret; exact ⟨rfl, Below.step HB.out (Bl.prop _)⟩)
  | focus
   obtain rfl : b1 = true := hE.symm
   clear hE
   as_aux_lemma =>
    have HMM : Hid (s.marks.length = C.clauses.length) := (okState_len (by have h := HP1.out; rw [Bool.and_eq_true] at h; exact h.1)).2.2
    go_wp2_with (first | (go_at_call 59; refine (lit (HSV.out _) (by assumption)).mono ?_; rintro e z ⟨rfl, hz⟩; obtain ⟨z, rfl⟩ := Bl.on hz; clear hz) | (go_at_call 59; refine (HSV.out _).mono ?_; rintro e z ⟨rfl, hz⟩; obtain ⟨z, rfl⟩ := Bl.on hz; clear hz))
    go_loopg [7] s.marks.length (fun gk v7 wr => ∃ (j : Nat) (z : Bl W0), gk = s.marks.length - j ∧ j ≤ s.marks.length ∧ v7 = .int .i64 j ∧ wr = z.val ∧ Hid (∀ (i : Nat) (m : KMark) (k : KClause), i < j → s.marks[i]? = some m → C.clauses[i]? = some k → failedBy k m p = false))
    case atStart => exact ⟨0, _, rfl, Nat.zero_le _, rfl, rfl, fun i m k h => by omega⟩
    case round =>
     obtain ⟨j, z, hgk, hj, rfl, rfl, hpre⟩ := hrel
     have HGK := Lib.hid hgk; clear hgk
     by_cases hlt : j < s.marks.length
     · obtain ⟨m, hm⟩ : ∃ m, s.marks[j]? = some m := ⟨s.marks[j], List.getElem?_eq_getElem hlt⟩
       obtain ⟨k, hk⟩ : ∃ k, C.clauses[j]? = some k := ⟨C.clauses[j]'(by rw [← HMM.out]; exact hlt), List.getElem?_eq_getElem _⟩
       obtain ⟨mb, moff, hM0, hmb, hmc⟩ := HS.out.mark hm
       obtain ⟨b, off, st, hA0, hb, hcell, _⟩ := HC.out.clause hk
       simp only at hM0 hA0
       subst hM0 hA0
       have c8 : ∀ z : Bl W0, z.val.cell? ⟨b, off + j * 16 + 8, none⟩ = some (.bool k.final) := fun z => hcell z.val (Below.step HB.out z.prop) 8 (by omega)
       have e0 : ∀ z : Bl W0, z.val.cell? ⟨mb, moff + j * 5, none⟩ = some (.int .i64 m.status) := fun z => hmc j m hm z.val (Below.step HB.out z.prop) 0 (by omega)
       have e3 : ∀ z : Bl W0, z.val.cell? ⟨mb, moff + j * 5 + 3, none⟩ = some (.int .i64 m.bearer) := fun z => hmc j m hm z.val (Below.step HB.out z.prop) 3 (by omega)
       clear hcell hmc
       have HM := Lib.hid hm; clear hm
       have HK := Lib.hid hk; clear hk
       have j1 : (j : Int) < (s.marks.length : Int) := by omega
       have j2 : (j : Int) < (C.clauses.length : Int) := by have := HMM.out; omega
       obtain ⟨b2, HP2, hE⟩ : ∃ b, Hid ((failedBy k m p) = b) ∧ cond (failedBy k m p) true false = b := ⟨_, rfl, (cd_self _).symm⟩
       simp only [failedBy, cds] at hE
       repeat' (first | (replace hE := cd_t hE (by assumption)) | (replace hE := cd_f hE (by assumption)) | (replace hE := cd_eq hE; rcases hE with ⟨q, q', hE⟩ | ⟨q, q', hE⟩) | (replace hE := cd_any hE; rcases hE with ⟨q, hE⟩ | ⟨q, hE⟩) | fail)
       all_goals first
        | focus
         obtain rfl : b2 = false := hE.symm
         clear hE
         as_aux_lemma =>
          have HN := HP2
          go_wp2
          go_roundg (s.marks.length - (j + 1))
          case measure => rw [HGK.out]; omega
          case rel => exact ⟨j + 1, _, rfl, by omega, by go_num, rfl, fun i m' k' hi hx hy => by
           by_cases e : i = j
           · subst e
             rw [HM.out] at hx
             rw [HK.out] at hy
             injection hx with hx
             injection hy with hy
             subst hx hy
             exact HN.out
           · exact hpre.out i m' k' (by omega) hx hy⟩
        | focus
         obtain rfl : b2 = true := hE.symm
         clear hE
         as_aux_lemma =>
          obtain rfl : E = true := by rw [← HE.out, ← Bool.and_assoc, HP1.out, anyFailed_yes HM.out HK.out HP2.out]; rfl
          go_wp2
          go_ret
          exact ⟨rfl, Below.step HB.out (Bl.prop _)⟩
     · obtain rfl : j = s.marks.length := by omega
       have hf : anyFailed C s p = false := anyFailed_no (fun i m k hx hy => hpre.out i m k (List.getElem?_eq_some_iff.1 hx).1 hx hy)
       obtain rfl : E = false := by rw [← HE.out, ← Bool.and_assoc, HP1.out, hf]; rfl
       clear hf
       go_wp2
       go_ret
       exact ⟨rfl, Below.step HB.out (Bl.prop _)⟩
end Go.Proofs.YtaielhafpmjkaaaGreatDoor
