/-
  Sys3; Prj1; Sys4
-/
import Derived.Test.YtaielhafpmjkaaaGreatDoorQ08
import Derived.Test.YtaielhafpmjkaaaGreatDoorQ09
namespace Go.Proofs.YtaielhafpmjkaaaGreatDoor
open Go.RowKit
def sv1 (C : KCon) (s : KState) : Bool := ((!decide (s.day < 0)) && ((!decide (C.days < s.day)) && (((s.holders.length : Int) == (C.holders.length : Int)) && (((s.used.length : Int) == (C.acts.length : Int)) && ((s.marks.length : Int) == (C.clauses.length : Int))))))
def holdOk (C : KCon) (p : Int) : Bool := (!decide (p < 0)) && (!decide (C.parties ≤ p))
def sHolders (C : KCon) (s : KState) : Bool := s.holders.all (holdOk C)
def sUsed (C : KCon) (s : KState) : Bool := (List.range s.used.length).all (fun i => match s.used[i]?, C.acts[i]? with | some u, some a => !(u && (a.kind == 1)) | _, _ => true)
def sMarks (C : KCon) (s : KState) : Bool := (List.range s.marks.length).all (fun i => match s.marks[i]?, C.clauses[i]? with | some m, some k => C.okMark k m && !(readyK s.marks k m) | _, _ => true)
def KCon.okState (C : KCon) (s : KState) : Bool := C.valid && (sv1 C s && (sHolders C s && (sUsed C s && sMarks C s)))
theorem sHolders_bad {C : KCon} {s : KState} {j : Nat} {x : Int} (hx : s.holders[j]? = some x) (h : holdOk C x = false) : sHolders C s = false := by
 cases e : sHolders C s with
 | false => rfl
 | true =>
  unfold sHolders at e
  rw [List.all_eq_true.1 e x (List.mem_of_getElem? hx)] at h
  cases h
theorem sHolders_all {C : KCon} {s : KState} (h : ∀ (j : Nat) (x : Int), s.holders[j]? = some x → holdOk C x = true) : sHolders C s = true := by
 unfold sHolders
 rw [List.all_eq_true]
 intro x hx
 obtain ⟨j, hj⟩ := List.getElem?_of_mem hx
 exact h j x hj
theorem sUsed_bad {C : KCon} {s : KState} {j : Nat} {a : KAct} (hx : s.used[j]? = some true) (ha : C.acts[j]? = some a) (h : (a.kind == 1) = true) : sUsed C s = false := by
 cases e : sUsed C s with
 | false => rfl
 | true =>
  unfold sUsed at e
  have hj : j < s.used.length := (List.getElem?_eq_some_iff.1 hx).1
  have := List.all_eq_true.1 e j (by simpa using hj)
  simp only [hx, ha, h] at this
  cases this
theorem sUsed_all {C : KCon} {s : KState} (h : ∀ (j : Nat) (u : Bool) (a : KAct), s.used[j]? = some u → C.acts[j]? = some a → (u && (a.kind == 1)) = false) : sUsed C s = true := by
 unfold sUsed
 rw [List.all_eq_true]
 intro i _
 cases e : s.used[i]? with
 | none => rfl
 | some u =>
  cases e2 : C.acts[i]? with
  | none => rfl
  | some a => simp only [h i u a e e2]; rfl
theorem sMarks_bad {C : KCon} {s : KState} {j : Nat} {m : KMark} {k : KClause} (hm : s.marks[j]? = some m) (hk : C.clauses[j]? = some k) (h : (C.okMark k m && !(readyK s.marks k m)) = false) : sMarks C s = false := by
 cases e : sMarks C s with
 | false => rfl
 | true =>
  unfold sMarks at e
  have hj : j < s.marks.length := (List.getElem?_eq_some_iff.1 hm).1
  have := List.all_eq_true.1 e j (by simpa using hj)
  simp only [hm, hk, h] at this
  cases this
theorem sMarks_all {C : KCon} {s : KState} (h : ∀ (j : Nat) (m : KMark) (k : KClause), s.marks[j]? = some m → C.clauses[j]? = some k → (C.okMark k m && !(readyK s.marks k m)) = true) : sMarks C s = true := by
 unfold sMarks
 rw [List.all_eq_true]
 intro i _
 cases e : s.marks[i]? with
 | none => rfl
 | some u =>
  cases e2 : C.clauses[i]? with
  | none => rfl
  | some a => exact h i u a e e2
theorem valid_conds {C : KCon} (h : C.valid = true) {i : Nat} {k : KClause} (hk : C.clauses[i]? = some k) : ∀ c ∈ k.start, 0 ≤ c.clause ∧ c.clause < C.clauses.length := by
 unfold KCon.valid at h
 simp only [Bool.and_eq_true] at h
 have h1 := okClauses_at h.2.2 hk
 unfold KCon.okClause at h1
 simp only [Bool.and_eq_true] at h1
 have h2 := h1.2.1
 unfold condsOk at h2
 intro c hc
 have h3 := List.all_eq_true.1 h2 c hc
 simp only [condOkB, Bool.and_eq_true, Bool.not_eq_true', decide_eq_false_iff_not] at h3
 omega
set_option maxRecDepth 100000 in
set_option maxHeartbeats 4000000 in
theorem stateValid_any (v : CV) (C : KCon) (tv : TV) (s : KState) (w : World) (hC : ConAt w v C) (hS : StateAt w tv s) : Calls Tryz.prog 19 #[v.val C, tv.val s] w (RetB (.bool (C.okState s)) w) := by
 obtain ⟨⟨hA, hcp⟩, ⟨uA, ucp⟩, ⟨aA, acp⟩, ⟨kA, kcp⟩, ⟨oA, ocp⟩⟩ := v
 obtain ⟨⟨shA, shc⟩, ⟨suA, suc⟩, ⟨smA, smc⟩⟩ := tv
 have hhx : s.holders.length ≤ 9223372036854775807 := by have h1 := hS.holders.2.2.1; have h2 := hS.holders.2.2.2; unfold maxLen at h2; omega
 have hux : s.used.length ≤ 9223372036854775807 := by have h1 := hS.used.2.2.1; have h2 := hS.used.2.2.2; unfold maxLen at h2; omega
 have hmx : s.marks.length ≤ 9223372036854775807 := by have h1 := hS.marks.2.2.1; have h2 := hS.marks.2.2.2; unfold maxLen at h2; omega
 have HC := Lib.hid hC; clear hC
 have HS := Lib.hid hS; clear hS
 simp only [CV.val, CV.cells, TV.val, TV.cells, KState.cells]
 generalize hE : C.okState s = E
 simp only [KCon.okState] at hE
 have HE := Lib.hid hE; clear hE
 go_enter Tryz.func19, Tryz.ntmps19
 go_upto_region 1 with (fail)
 generalize hW0 : World.alloc _ _ = W0
 obtain ⟨HB, hh0, hh1⟩ := bx2 hW0
 have HW0 := Lib.hid hW0.symm
 clear hW0
 obtain ⟨k0_0, k0_1, k0_2, k0_3, k0_4, k0_5, k0_6⟩ := kc7 hh0
 clear hh0
 obtain ⟨k1_0, k1_1, k1_2, k1_3⟩ := kc4 hh1
 clear hh1
 change Code.wp _ _ _ _ (Bl.val (⟨W0, Below.refl _ _⟩ : Bl W0))
 generalize (⟨W0, Below.refl _ _⟩ : Bl W0) = s0
 have hw2 : W0.heap.size = w.heap.size + 1 + 1 := by rw [HW0.out]; simp
 have HW2 := Lib.hid hw2; clear hw2
 have hcv : ∀ z : Bl W0, Calls Tryz.prog 44 #[.agg #[.int .i64 C.parties, .slice hA C.holders.length hcp, .slice uA C.units.length ucp, .slice aA C.acts.length acp, .slice kA C.clauses.length kcp, .int .i64 C.days, .slice oA C.off.length ocp]] z.val (ConPost C.errno z.val) := fun z => conValid_any (⟨⟨hA, hcp⟩, ⟨uA, ucp⟩, ⟨aA, acp⟩, ⟨kA, kcp⟩, ⟨oA, ocp⟩⟩ : CV) C z.val (HC.out.below (Below.step HB.out z.prop))
 have HCV := Lib.hid hcv; clear hcv
 go_wp2_with fail
 refine (HCV.out _).mono ?_
 rintro e z ⟨n, rfl, hz⟩
 obtain ⟨z1, rfl⟩ := Bl.on hz
 clear hz
 cases hv : C.valid with
 | false =>
  obtain ⟨f1, f2⟩ := KCon.errno_no hv
  obtain rfl : E = false := by rw [← HE.out, hv]; rfl
  clear hv
  go_wp2
  go_ret
  exact ⟨rfl, Below.step HB.out (Bl.prop _)⟩
 | true =>
  rw [KCon.errno_yes hv]
  have HV := Lib.hid hv; clear hv
  cases q1 : decide (s.day < 0) with
  | false =>
   cases q2 : decide (C.days < s.day) with
   | false =>
    cases q3 : ((s.holders.length : Int) == (C.holders.length : Int)) with
    | false =>
     have q3_0 : ((s.holders.length : Int) != (C.holders.length : Int)) = true := by simpa using q3
     have hP : sv1 C s = false := by unfold sv1; rw [q1, q2, q3]; rfl
     obtain rfl : E = false := by rw [← HE.out, HV.out, hP]; rfl
     clear hP
     go_wp2
     go_ret
     exact ⟨rfl, Below.step HB.out (Bl.prop _)⟩
    | true =>
     have q3_0 : ((s.holders.length : Int) != (C.holders.length : Int)) = false := by simpa using q3
     cases q4 : ((s.used.length : Int) == (C.acts.length : Int)) with
     | false =>
      have q4_0 : ((s.used.length : Int) != (C.acts.length : Int)) = true := by simpa using q4
      have hP : sv1 C s = false := by unfold sv1; rw [q1, q2, q3, q4]; rfl
      obtain rfl : E = false := by rw [← HE.out, HV.out, hP]; rfl
      clear hP
      go_wp2
      go_ret
      exact ⟨rfl, Below.step HB.out (Bl.prop _)⟩
     | true =>
      have q4_0 : ((s.used.length : Int) != (C.acts.length : Int)) = false := by simpa using q4
      cases q5 : ((s.marks.length : Int) == (C.clauses.length : Int)) with
      | false =>
       have q5_0 : ((s.marks.length : Int) != (C.clauses.length : Int)) = true := by simpa using q5
       have hP : sv1 C s = false := by unfold sv1; rw [q1, q2, q3, q4, q5]; rfl
       obtain rfl : E = false := by rw [← HE.out, HV.out, hP]; rfl
       clear hP
       go_wp2
       go_ret
       exact ⟨rfl, Below.step HB.out (Bl.prop _)⟩
      | true =>
       have q5_0 : ((s.marks.length : Int) != (C.clauses.length : Int)) = false := by simpa using q5
       have hP : sv1 C s = true := by unfold sv1; rw [q1, q2, q3, q4, q5]; rfl
       have HP1 := Lib.hid hP; clear hP
       have hum : s.used.length = C.acts.length := by have h := (by assumption : ((s.used.length : Int) == (C.acts.length : Int)) = true); simp at h; omega
       have hmm : s.marks.length = C.clauses.length := by have h := (by assumption : ((s.marks.length : Int) == (C.clauses.length : Int)) = true); simp at h; omega
       have HUM := Lib.hid hum; clear hum
       have HMM := Lib.hid hmm; clear hmm
       go_wp2
       go_loopg [59] s.holders.length (fun gk v59 wr => ∃ (j : Nat), gk = s.holders.length - j ∧ j ≤ s.holders.length ∧ v59 = .int .i64 j ∧ z1.val = wr ∧ Hid (∀ (i : Nat) (x : Int), i < j → s.holders[i]? = some x → holdOk C x = true))
       case atStart => exact ⟨0, rfl, Nat.zero_le _, rfl, rfl, fun i x h => by omega⟩
       case round =>
        obtain ⟨j, hgk, hj, rfl, rfl, hpre⟩ := hrel
        have HGK := Lib.hid hgk; clear hgk
        by_cases hlt : j < s.holders.length
        · obtain ⟨b, off, hA0, hbl, hcell⟩ := (HS.out.below (Below.step HB.out z1.prop)).holders.1.form (by omega) (by omega)
          simp only at hA0
          subst hA0
          obtain ⟨d, hd⟩ : ∃ d, s.holders[j]? = some d := ⟨s.holders[j], List.getElem?_eq_getElem hlt⟩
          have kx : z1.val.cell? ⟨b, off + j, none⟩ = some (.int .i64 d) := by rw [hcell _ (by omega)]; simp [ints, hd]
          clear hcell
          have HD := Lib.hid hd; clear hd
          have j1 : (j : Int) < (s.holders.length : Int) := by omega
          cases p1 : decide (d < 0) with
          | true =>
           obtain rfl : E = false := by rw [← HE.out, HV.out, HP1.out, sHolders_bad HD.out (by unfold holdOk; rw [p1]; rfl)]; rfl
           go_wp2
           go_ret
           exact ⟨rfl, Below.step HB.out (Bl.prop _)⟩
          | false =>
           cases p2 : decide (C.parties ≤ d) with
           | true =>
            obtain rfl : E = false := by rw [← HE.out, HV.out, HP1.out, sHolders_bad HD.out (by unfold holdOk; rw [p1, p2]; rfl)]; rfl
            go_wp2
            go_ret
            exact ⟨rfl, Below.step HB.out (Bl.prop _)⟩
           | false =>
            have HOK : Hid (holdOk C d = true) := by show _ = _; unfold holdOk; rw [p1, p2]; rfl
            go_wp2
            go_roundg (s.holders.length - (j + 1))
            case measure => rw [HGK.out]; omega
            case rel => exact ⟨j + 1, rfl, by omega, by go_num, rfl, fun i x hi hx => by
             by_cases e : i = j
             · subst e
               rw [HD.out] at hx
               injection hx with hx
               subst hx
               exact HOK.out
             · exact hpre.out i x (by omega) hx⟩
        · obtain rfl : j = s.holders.length := by omega
          have HSH : Hid (sHolders C s = true) := sHolders_all (fun i x hx => hpre.out i x (List.getElem?_eq_some_iff.1 hx).1 hx)
          go_wp2
          go_loopg [75] s.used.length (fun gk v75 wr => ∃ (j : Nat), gk = s.used.length - j ∧ j ≤ s.used.length ∧ v75 = .int .i64 j ∧ z1.val = wr ∧ Hid (∀ (i : Nat) (u : Bool) (a : KAct), i < j → s.used[i]? = some u → C.acts[i]? = some a → (u && (a.kind == 1)) = false))
          case atStart => exact ⟨0, rfl, Nat.zero_le _, rfl, rfl, fun i u a h => by omega⟩
          case round =>
           obtain ⟨j, hgk, hj, rfl, rfl, hpre2⟩ := hrel
           have HGK2 := Lib.hid hgk; clear hgk
           by_cases hlt : j < s.used.length
           · obtain ⟨b, off, hA0, hbl, hcell⟩ := (HS.out.below (Below.step HB.out z1.prop)).used.1.form (by omega) (by omega)
             simp only at hA0
             subst hA0
             obtain ⟨d, hd⟩ : ∃ d, s.used[j]? = some d := ⟨s.used[j], List.getElem?_eq_getElem hlt⟩
             obtain ⟨a, ha⟩ : ∃ a, C.acts[j]? = some a := ⟨C.acts[j]'(by rw [← HUM.out]; exact hlt), List.getElem?_eq_getElem _⟩
             obtain ⟨b2, off2, hA1, hb2, hcell2⟩ := HC.out.act ha
             simp only at hA1
             subst hA1
             have kx : z1.val.cell? ⟨b, off + j, none⟩ = some (.bool d) := by rw [hcell _ (by omega)]; simp [bools, hd]
             have ky : z1.val.cell? ⟨b2, off2 + j * 7, none⟩ = some (.int .i64 a.kind) := hcell2 z1.val (Below.step HB.out z1.prop) 0 (by omega)
             clear hcell hcell2
             have HD := Lib.hid hd; clear hd
             have HA := Lib.hid ha; clear ha
             have j1 : (j : Int) < (s.used.length : Int) := by omega
             have j2 : (j : Int) < (C.acts.length : Int) := by have h := HUM.out; omega
             cases d with
             | false =>
              go_wp2
              go_roundg (s.used.length - (j + 1))
              case measure => rw [HGK2.out]; omega
              case rel => exact ⟨j + 1, rfl, by omega, by go_num, rfl, fun i u a hi hx hy => by
               by_cases e : i = j
               · subst e
                 rw [HD.out] at hx
                 injection hx with hx
                 subst hx
                 rfl
               · exact hpre2.out i u a (by omega) hx hy⟩
             | true =>
              cases p1 : (a.kind == 1) with
              | true =>
               obtain rfl : E = false := by rw [← HE.out, HV.out, HP1.out, HSH.out, sUsed_bad HD.out HA.out p1]; rfl
               go_wp2
               go_ret
               exact ⟨rfl, Below.step HB.out (Bl.prop _)⟩
              | false =>
               go_wp2
               go_roundg (s.used.length - (j + 1))
               case measure => rw [HGK2.out]; omega
               case rel => exact ⟨j + 1, rfl, by omega, by go_num, rfl, fun i u a' hi hx hy => by
                by_cases e : i = j
                · subst e
                  rw [HA.out] at hy
                  injection hy with hy
                  subst hy
                  rw [p1]
                  cases u <;> rfl
                · exact hpre2.out i u a' (by omega) hx hy⟩
           · obtain rfl : j = s.used.length := by omega
             have HSU : Hid (sUsed C s = true) := sUsed_all (fun i u a hx hy => hpre2.out i u a (List.getElem?_eq_some_iff.1 hx).1 hx hy)
             go_wp2
             go_loopg [94] s.marks.length (fun gk v94 wr => ∃ (j : Nat) (z : Bl W0), gk = s.marks.length - j ∧ j ≤ s.marks.length ∧ v94 = .int .i64 j ∧ wr = z.val ∧ Hid (∀ (i : Nat) (m : KMark) (k : KClause), i < j → s.marks[i]? = some m → C.clauses[i]? = some k → (C.okMark k m && !(readyK s.marks k m)) = true))
             case atStart => exact ⟨0, _, rfl, Nat.zero_le _, rfl, rfl, fun i m k h => by omega⟩
             case round =>
              obtain ⟨j, z, hgk, hj, rfl, rfl, hpre3⟩ := hrel
              have HGK3 := Lib.hid hgk; clear hgk
              by_cases hlt : j < s.marks.length
              · obtain ⟨m, hm⟩ : ∃ m, s.marks[j]? = some m := ⟨s.marks[j], List.getElem?_eq_getElem hlt⟩
                obtain ⟨k, hk⟩ : ∃ k, C.clauses[j]? = some k := ⟨C.clauses[j]'(by rw [← HMM.out]; exact hlt), List.getElem?_eq_getElem _⟩
                have hc1 : ∀ y : Bl W0, Calls Tryz.prog 45 #[.agg #[.int .i64 C.parties, .slice hA C.holders.length hcp, .slice uA C.units.length ucp, .slice aA C.acts.length acp, .slice kA C.clauses.length kcp, .int .i64 C.days, .slice oA C.off.length ocp], .int .i64 j, .agg #[.int .i64 m.status, .int .i64 m.left, .int .i64 m.got, .int .i64 m.bearer, .bool m.paused]] y.val (RetB (.bool (C.okMark k m)) y.val) := fun y => validMark_any (⟨⟨hA, hcp⟩, ⟨uA, ucp⟩, ⟨aA, acp⟩, ⟨kA, kcp⟩, ⟨oA, ocp⟩⟩ : CV) C j k m y.val (HC.out.below (Below.step HB.out y.prop)) hk
                have hc2 : ∀ y : Bl W0, Calls Tryz.prog 46 #[.agg #[.int .i64 C.parties, .slice hA C.holders.length hcp, .slice uA C.units.length ucp, .slice aA C.acts.length acp, .slice kA C.clauses.length kcp, .int .i64 C.days, .slice oA C.off.length ocp], .agg #[.int .i64 s.day, .slice shA s.holders.length shc, .slice suA s.used.length suc, .slice smA s.marks.length smc], .int .i64 j] y.val (RetB (.bool (readyK s.marks k m)) y.val) := fun y => ready_any (⟨⟨hA, hcp⟩, ⟨uA, ucp⟩, ⟨aA, acp⟩, ⟨kA, kcp⟩, ⟨oA, ocp⟩⟩ : CV) C (⟨⟨shA, shc⟩, ⟨suA, suc⟩, ⟨smA, smc⟩⟩ : TV) s j k m y.val (HC.out.below (Below.step HB.out y.prop)) (HS.out.below (Below.step HB.out y.prop)) hk hm (fun c hc => by rw [HMM.out]; exact valid_conds HV.out hk c hc)
                obtain ⟨b, off, hA0, hbl, hcell⟩ := HS.out.mark hm
                simp only at hA0
                subst hA0
                have hmc := fun y : Bl W0 => hcell j m hm y.val (Below.step HB.out y.prop)
                clear hcell
                have HM := Lib.hid hm; clear hm
                have HK := Lib.hid hk; clear hk
                generalize hvv1 : C.okMark k m = v1 at hc1
                generalize hvv2 : readyK s.marks k m = v2 at hc2
                have HV1 := Lib.hid hvv1; clear hvv1
                have HV2 := Lib.hid hvv2; clear hvv2
                obtain ⟨ms, ml, mg, mb, mp⟩ := m
                have e0 : ∀ y : Bl W0, y.val.cell? ⟨b, off + j * 5, none⟩ = some (.int .i64 ms) := fun y => hmc y 0 (by omega)
                have e1 : ∀ y : Bl W0, y.val.cell? ⟨b, off + j * 5 + 1, none⟩ = some (.int .i64 ml) := fun y => hmc y 1 (by omega)
                have e2 : ∀ y : Bl W0, y.val.cell? ⟨b, off + j * 5 + 2, none⟩ = some (.int .i64 mg) := fun y => hmc y 2 (by omega)
                have e3 : ∀ y : Bl W0, y.val.cell? ⟨b, off + j * 5 + 3, none⟩ = some (.int .i64 mb) := fun y => hmc y 3 (by omega)
                have e4 : ∀ y : Bl W0, y.val.cell? ⟨b, off + j * 5 + 4, none⟩ = some (.bool mp) := fun y => hmc y 4 (by omega)
                clear hmc
                simp only at hc1
                have HC1 := Lib.hid hc1; clear hc1
                have HC2 := Lib.hid hc2; clear hc2
                have j0 : (0 : Int) ≤ (j : Int) := by omega
                have j1 : (j : Int) < (s.marks.length : Int) := by omega
                cases v1 with
                | false =>
                 obtain rfl : E = false := by rw [← HE.out, HV.out, HP1.out, HSH.out, HSU.out, sMarks_bad HM.out HK.out (by rw [HV1.out]; rfl)]; rfl
                 go_wp2
                 refine wp_region_bl (by kernel_rfl) (by kernel_rfl) ?_; (repeat (go_big_quiet_step ((first | (go_at_call 45; exact Calls.bl_of (HC1.out _)) | (go_at_call 46; exact Calls.bl_of (HC2.out _)))))); refine wpQuiet_nil ?_; rintro _ ⟨zq, rfl⟩
                 go_wp2
                 go_ret
                 exact ⟨rfl, Below.step HB.out (Bl.prop _)⟩
                | true =>
                 cases v2 with
                 | true =>
                  obtain rfl : E = false := by rw [← HE.out, HV.out, HP1.out, HSH.out, HSU.out, sMarks_bad HM.out HK.out (by rw [HV1.out, HV2.out]; rfl)]; rfl
                  go_wp2
                  refine wp_region_bl (by kernel_rfl) (by kernel_rfl) ?_; (repeat (go_big_quiet_step ((first | (go_at_call 45; exact Calls.bl_of (HC1.out _)) | (go_at_call 46; exact Calls.bl_of (HC2.out _)))))); refine wpQuiet_nil ?_; rintro _ ⟨zq, rfl⟩
                  go_wp2
                  go_ret
                  exact ⟨rfl, Below.step HB.out (Bl.prop _)⟩
                 | false =>
                  go_wp2
                  refine wp_region_bl (by kernel_rfl) (by kernel_rfl) ?_; (repeat (go_big_quiet_step ((first | (go_at_call 45; exact Calls.bl_of (HC1.out _)) | (go_at_call 46; exact Calls.bl_of (HC2.out _)))))); refine wpQuiet_nil ?_; rintro _ ⟨zq, rfl⟩
                  go_wp2
                  go_roundg (s.marks.length - (j + 1))
                  case measure => rw [HGK3.out]; omega
                  case rel => exact ⟨j + 1, zq, rfl, by omega, by go_num, rfl, fun i m' k' hi hx hy => by
                   by_cases e : i = j
                   · subst e
                     rw [HM.out] at hx
                     rw [HK.out] at hy
                     injection hx with hx
                     injection hy with hy
                     subst hx hy
                     rw [HV1.out, HV2.out]
                     rfl
                   · exact hpre3.out i m' k' (by omega) hx hy⟩
              · obtain rfl : j = s.marks.length := by omega
                obtain rfl : E = true := by rw [← HE.out, HV.out, HP1.out, HSH.out, HSU.out, sMarks_all (fun i m k hx hy => hpre3.out i m k (List.getElem?_eq_some_iff.1 hx).1 hx hy)]; rfl
                go_wp2
                go_ret
                exact ⟨rfl, Below.step HB.out (Bl.prop _)⟩
   | true =>
    have hP : sv1 C s = false := by unfold sv1; rw [q1, q2]; rfl
    obtain rfl : E = false := by rw [← HE.out, HV.out, hP]; rfl
    clear hP
    go_wp2
    go_ret
    exact ⟨rfl, Below.step HB.out (Bl.prop _)⟩
  | true =>
   have hP : sv1 C s = false := by unfold sv1; rw [q1]; rfl
   obtain rfl : E = false := by rw [← HE.out, HV.out, hP]; rfl
   clear hP
   go_wp2
   go_ret
   exact ⟨rfl, Below.step HB.out (Bl.prop _)⟩
end Go.Proofs.YtaielhafpmjkaaaGreatDoor
namespace Go.Proofs.YtaielhafpmjkaaaGreatDoor
open Go.RowKit
def holderAt (l : List Int) (x : Int) : Int := (l[x.toNat]?).getD 0
def seesB (hs : List Int) (ki ro tg pt : Int) : Bool := (cond ((!(ki == 1)) || ((tg == -1) || (holderAt hs tg == pt))) true ((!(ro == -1)) && (holderAt hs ro == pt)))
def seesK (s : KState) (a : KAct) (p : Int) : Bool := seesB s.holders a.kind a.role a.tgt p
set_option maxRecDepth 100000 in
set_option maxHeartbeats 4000000 in
theorem sees_any (v : CV) (C : KCon) (tv : TV) (s : KState) (pt : Int) (i : Nat) (a : KAct) (w : World) (hC : ConAt w v C) (hS : StateAt w tv s) (ha : C.acts[i]? = some a) (hpos : 0 < s.holders.length)
 (hto : (a.kind == 1) = true → (a.tgt == -1) = false → 0 ≤ a.tgt ∧ a.tgt < s.holders.length) (hro : (a.role == -1) = false → 0 ≤ a.role ∧ a.role < s.holders.length) :
 Calls Tryz.prog 50 #[v.val C, tv.val s, .int .i64 pt, .int .i64 i] w (RetB (.bool (seesK s a pt)) w) := by
 have hil : i < C.acts.length := (List.getElem?_eq_some_iff.1 ha).1
 obtain ⟨b, off, hA0, hbl, hcell⟩ := hC.act ha
 obtain ⟨hb, hoff, hH0, hhb, hhc⟩ := hS.holders.1.form hpos (by omega)
 obtain ⟨⟨hA, hcp⟩, ⟨uA, ucp⟩, ⟨aA, acp⟩, ⟨kA, kcp⟩, ⟨oA, ocp⟩⟩ := v
 obtain ⟨⟨shA, shc⟩, ⟨suA, suc⟩, ⟨smA, smc⟩⟩ := tv
 simp only at hA0 hH0
 subst hA0 hH0
 have hhx : s.holders.length ≤ 9223372036854775807 := by have h1 := hS.holders.2.2.1; have h2 := hS.holders.2.2.2; unfold maxLen at h2; omega
 obtain ⟨ki, ro, gi, tg, un, ⟨ln, ld⟩⟩ := a
 generalize hE : seesK s ⟨ki, ro, gi, tg, un, ⟨ln, ld⟩⟩ pt = E
 simp only [seesK] at hE
 have HE := Lib.hid hE; clear hE
 simp only at hto hro
 have HTO := Lib.hid hto; clear hto
 have HRO := Lib.hid hro; clear hro
 clear hC hS ha
 simp only [CV.val, CV.cells, TV.val, TV.cells, KState.cells]
 have i0 : (0 : Int) ≤ (i : Int) := by omega
 have i1 : (i : Int) < (C.acts.length : Int) := by omega
 obtain ⟨c0, c1, c2, c3, c4, c5, c6⟩ := rw7 (hcell w (Below.refl _ _)) rfl
 clear hcell
 go_enter Tryz.func50, Tryz.ntmps50
 go_upto_region 2 with (fail)
 generalize hW0 : World.alloc _ _ = W0
 obtain ⟨HB, hh0, hh1, hh2⟩ := bx3 hW0
 clear hW0
 obtain ⟨k0_0, k0_1, k0_2, k0_3, k0_4, k0_5, k0_6⟩ := kc7 hh0
 clear hh0
 obtain ⟨k1_0, k1_1, k1_2, k1_3⟩ := kc4 hh1
 clear hh1
 obtain ⟨k2_0, k2_1, k2_2, k2_3, k2_4, k2_5, k2_6⟩ := kc7 hh2
 clear hh2
 change Code.wp _ _ _ _ (Bl.val (⟨W0, Below.refl _ _⟩ : Bl W0))
 generalize (⟨W0, Below.refl _ _⟩ : Bl W0) = s0
 clear c0 c1 c2 c3 c4 c5 c6
 have HHC : Hid (∀ x : Int, 0 ≤ x → x < (s.holders.length : Int) → ∀ z : Bl W0, z.val.cell? ⟨hb, hoff + x.toNat, none⟩ = some (.int .i64 (holderAt s.holders x))) := fun x h0 h1 z => by
  have hx : x.toNat < s.holders.length := by omega
  rw [(Below.step HB.out z.prop).cell (p := ⟨hb, hoff + x.toNat, none⟩) hhb, hhc _ (by omega)]
  simp [ints, holderAt, hx]
 clear hhc
 cases q1 : (ki == 1) with
 | false =>
  have q1_0 : (ki != 1) = true := by simpa using q1
  have hP : seesB s.holders ki ro tg pt = true := by unfold seesB; rw [q1]; rfl
  obtain rfl : E = true := by rw [← HE.out, hP]
  clear hP
  go_wp2
  go_ret
  exact ⟨rfl, Below.step HB.out (Bl.prop _)⟩
 | true =>
  have q1_0 : (ki != 1) = false := by simpa using q1
  cases q2 : (tg == -1) with
  | false =>
   have q2_0 : (tg != -1) = true := by simpa using q2
   obtain ⟨tg0, tg1⟩ := HTO.out (by assumption) (by assumption)
   have hto1 := HHC.out tg tg0 tg1
   cases q3 : (holderAt s.holders tg == pt) with
   | false =>
    cases q4 : (ro == -1) with
    | false =>
     have q4_0 : (ro != -1) = true := by simpa using q4
     obtain ⟨ro0, ro1⟩ := HRO.out (by assumption)
     have hro1 := HHC.out ro ro0 ro1
     cases q5 : (holderAt s.holders ro == pt) with
     | false =>
      have hP : seesB s.holders ki ro tg pt = false := by unfold seesB; rw [q1, q2, q3, q4, q5]; rfl
      obtain rfl : E = false := by rw [← HE.out, hP]
      clear hP
      go_wp2
      go_ret
      exact ⟨rfl, Below.step HB.out (Bl.prop _)⟩
     | true =>
      have hP : seesB s.holders ki ro tg pt = true := by unfold seesB; rw [q1, q2, q3, q4, q5]; rfl
      obtain rfl : E = true := by rw [← HE.out, hP]
      clear hP
      go_wp2
      go_ret
      exact ⟨rfl, Below.step HB.out (Bl.prop _)⟩
    | true =>
     have q4_0 : (ro != -1) = false := by simpa using q4
     have hP : seesB s.holders ki ro tg pt = false := by unfold seesB; rw [q1, q2, q3, q4]; rfl
     obtain rfl : E = false := by rw [← HE.out, hP]
     clear hP
     go_wp2
     go_ret
     exact ⟨rfl, Below.step HB.out (Bl.prop _)⟩
   | true =>
    have hP : seesB s.holders ki ro tg pt = true := by unfold seesB; rw [q1, q2, q3]; rfl
    obtain rfl : E = true := by rw [← HE.out, hP]
    clear hP
    go_wp2
    go_ret
    exact ⟨rfl, Below.step HB.out (Bl.prop _)⟩
  | true =>
   have q2_0 : (tg != -1) = false := by simpa using q2
   have hP : seesB s.holders ki ro tg pt = true := by unfold seesB; rw [q1, q2]; rfl
   obtain rfl : E = true := by rw [← HE.out, hP]
   clear hP
   go_wp2
   go_ret
   exact ⟨rfl, Below.step HB.out (Bl.prop _)⟩
end Go.Proofs.YtaielhafpmjkaaaGreatDoor
namespace Go.Proofs.YtaielhafpmjkaaaGreatDoor
open Go.RowKit
def br1 (C : KCon) (s : KState) (p : Int) : Bool := ((!decide (p < 0)) && ((!decide (C.parties ≤ p)) && (C.okState s)))
def failedBy (k : KClause) (m : KMark) (p : Int) : Bool := k.final && ((m.status == 4) && (m.bearer == p))
def anyFailed (C : KCon) (s : KState) (p : Int) : Bool := (List.range s.marks.length).any (fun i => match s.marks[i]?, C.clauses[i]? with | some m, some k => failedBy k m p | _, _ => false)
def KCon.breach (C : KCon) (s : KState) (p : Int) : Bool := br1 C s p && anyFailed C s p
theorem anyFailed_yes {C : KCon} {s : KState} {p : Int} {j : Nat} {m : KMark} {k : KClause} (hm : s.marks[j]? = some m) (hk : C.clauses[j]? = some k) (h : failedBy k m p = true) : anyFailed C s p = true := by
 unfold anyFailed
 rw [List.any_eq_true]
 exact ⟨j, by simpa using (List.getElem?_eq_some_iff.1 hm).1, by simp only [hm, hk, h]⟩
theorem anyFailed_no {C : KCon} {s : KState} {p : Int} (h : ∀ (j : Nat) (m : KMark) (k : KClause), s.marks[j]? = some m → C.clauses[j]? = some k → failedBy k m p = false) : anyFailed C s p = false := by
 unfold anyFailed
 rw [List.any_eq_false]
 intro i _
 cases e : s.marks[i]? with
 | none => simp
 | some u =>
  cases e2 : C.clauses[i]? with
  | none => simp
  | some a => simp [h i u a e e2]
theorem okState_len {C : KCon} {s : KState} (h : C.okState s = true) : s.holders.length = C.holders.length ∧ s.used.length = C.acts.length ∧ s.marks.length = C.clauses.length := by
 unfold KCon.okState at h
 simp only [Bool.and_eq_true] at h
 have h1 := h.2.1
 simp only [sv1, Bool.and_eq_true, beq_iff_eq] at h1
 omega
set_option maxRecDepth 100000 in
set_option maxHeartbeats 4000000 in
theorem breach_any (v : CV) (C : KCon) (tv : TV) (s : KState) (p : Int) (w : World) (hC : ConAt w v C) (hS : StateAt w tv s) : Calls Tryz.prog 27 #[v.val C, tv.val s, .int .i64 p] w (RetB (.bool (C.breach s p)) w) := by
 obtain ⟨⟨hA, hcp⟩, ⟨uA, ucp⟩, ⟨aA, acp⟩, ⟨kA, kcp⟩, ⟨oA, ocp⟩⟩ := v
 obtain ⟨⟨shA, shc⟩, ⟨suA, suc⟩, ⟨smA, smc⟩⟩ := tv
 have hmx : s.marks.length ≤ 9223372036854775807 := by have h1 := hS.marks.2.2.1; have h2 := hS.marks.2.2.2; unfold maxLen at h2; omega
 have HC := Lib.hid hC; clear hC
 have HS := Lib.hid hS; clear hS
 simp only [CV.val, CV.cells, TV.val, TV.cells, KState.cells]
 generalize hE : C.breach s p = E
 simp only [KCon.breach] at hE
 have HE := Lib.hid hE; clear hE
 go_enter Tryz.func27, Tryz.ntmps27
 go_upto_region 1 with (fail)
 generalize hW0 : World.alloc _ _ = W0
 obtain ⟨HB, hh0, hh1⟩ := bx2 hW0
 have HW0 := Lib.hid hW0.symm
 clear hW0
 obtain ⟨k0_0, k0_1, k0_2, k0_3, k0_4, k0_5, k0_6⟩ := kc7 hh0
 clear hh0
 obtain ⟨k1_0, k1_1, k1_2, k1_3⟩ := kc4 hh1
 clear hh1
 change Code.wp _ _ _ _ (Bl.val (⟨W0, Below.refl _ _⟩ : Bl W0))
 generalize (⟨W0, Below.refl _ _⟩ : Bl W0) = s0
 have hw2 : W0.heap.size = w.heap.size + 1 + 1 := by rw [HW0.out]; simp
 have HW2 := Lib.hid hw2; clear hw2
 have hsv : ∀ z : Bl W0, Calls Tryz.prog 19 #[.agg #[.int .i64 C.parties, .slice hA C.holders.length hcp, .slice uA C.units.length ucp, .slice aA C.acts.length acp, .slice kA C.clauses.length kcp, .int .i64 C.days, .slice oA C.off.length ocp], .agg #[.int .i64 s.day, .slice shA s.holders.length shc, .slice suA s.used.length suc, .slice smA s.marks.length smc]] z.val (RetB (.bool (C.okState s)) z.val) := fun z => stateValid_any (⟨⟨hA, hcp⟩, ⟨uA, ucp⟩, ⟨aA, acp⟩, ⟨kA, kcp⟩, ⟨oA, ocp⟩⟩ : CV) C (⟨⟨shA, shc⟩, ⟨suA, suc⟩, ⟨smA, smc⟩⟩ : TV) s z.val (HC.out.below (Below.step HB.out z.prop)) (HS.out.below (Below.step HB.out z.prop))
 have HSV := Lib.hid hsv; clear hsv
 focus
  cases q1 : decide (p < 0)
  focus
   cases q2 : decide (C.parties ≤ p)
   focus
    cases q3 : (C.okState s)
    focus
     have hP : br1 C s p = false := by unfold br1; rw [q1, q2, q3]; rfl
     obtain rfl : E = false := by rw [← HE.out, hP]; rfl
     clear hP
    rotate_left
    focus
     have hP : br1 C s p = true := by unfold br1; rw [q1, q2, q3]; rfl
     have HP1 := Lib.hid hP; clear hP
     have hmm := (okState_len (by assumption : C.okState s = true)).2.2
     have HMM := Lib.hid hmm; clear hmm
     go_wp2_with fail
     refine (HSV.out _).mono ?_
     rintro e z ⟨rfl, hz⟩
     obtain ⟨z1, rfl⟩ := Bl.on hz
     clear hz
     go_wp2
     go_loopg [26] s.marks.length (fun gk v26 wr => ∃ (j : Nat) (z : Bl W0), gk = s.marks.length - j ∧ j ≤ s.marks.length ∧ v26 = .int .i64 j ∧ wr = z.val ∧ Hid (∀ (i : Nat) (m : KMark) (k : KClause), i < j → s.marks[i]? = some m → C.clauses[i]? = some k → failedBy k m p = false))
     case atStart => exact ⟨0, _, rfl, Nat.zero_le _, rfl, rfl, fun i m k h => by omega⟩
     case round =>
      obtain ⟨j, z, hgk, hj, rfl, rfl, hpre⟩ := hrel
      have HGK := Lib.hid hgk; clear hgk
      by_cases hlt : j < s.marks.length
      · obtain ⟨m, hm⟩ : ∃ m, s.marks[j]? = some m := ⟨s.marks[j], List.getElem?_eq_getElem hlt⟩
        obtain ⟨k, hk⟩ : ∃ k, C.clauses[j]? = some k := ⟨C.clauses[j]'(by rw [← HMM.out]; exact hlt), List.getElem?_eq_getElem _⟩
        obtain ⟨b, off, hA0, hbl, hcell⟩ := HS.out.mark hm
        obtain ⟨b2, off2, st, hA1, hb2, hcell2, _⟩ := HC.out.clause hk
        simp only at hA0 hA1
        subst hA0 hA1
        have hmc := hcell j m hm z.val (Below.step HB.out z.prop)
        have c8 : z.val.cell? ⟨b2, off2 + j * 16 + 8, none⟩ = some (.bool k.final) := hcell2 z.val (Below.step HB.out z.prop) 8 (by omega)
        clear hcell hcell2
        have HM := Lib.hid hm; clear hm
        have HK := Lib.hid hk; clear hk
        have hfb : failedBy k m p = (k.final && ((m.status == 4) && (m.bearer == p))) := rfl
        obtain ⟨ms, ml, mg, mb, mp⟩ := m
        simp only at hfb
        obtain ⟨e0, e1, e2, e3, e4⟩ := rw5 hmc rfl
        clear hmc
        generalize hkf : k.final = kf at c8 hfb
        have HKF := Lib.hid hkf; clear hkf
        have HFB := Lib.hid hfb; clear hfb
        have hl0 : w.heap.size < z.val.heap.size := by have h1 := z.prop.size; have h2 := HW2.out; omega
        have hl1 : w.heap.size + 1 < z.val.heap.size := by have h1 := z.prop.size; have h2 := HW2.out; omega
        have hl2 : b2 < z.val.heap.size := by have h1 := (Below.step HB.out z.prop).size; omega
        have j0 : (0 : Int) ≤ (j : Int) := by omega
        have j1 : (j : Int) < (s.marks.length : Int) := by omega
        have j2 : (j : Int) < (C.clauses.length : Int) := by have h := HMM.out; omega
        cases r1 : kf with
        | false =>
         have HN : Hid (failedBy k ⟨ms, ml, mg, mb, mp⟩ p = false) := by show _ = _; rw [HFB.out, r1]; rfl
         go_wp2
         go_roundg (s.marks.length - (j + 1))
         case measure => rw [HGK.out]; omega
         case rel => exact ⟨j + 1, ⟨_, Below.alloc' z.prop _⟩, rfl, by omega, by go_num, rfl, fun i m' k' hi hx hy => by
          by_cases e : i = j
          · subst e
            rw [HM.out] at hx
            rw [HK.out] at hy
            injection hx with hx
            injection hy with hy
            subst hx hy
            exact HN.out
          · exact hpre.out i m' k' (by omega) hx hy⟩
        | true =>
         cases r2 : (ms == 4) with
         | false =>
          have r2_0 : (ms != 4) = true := by simpa using r2
          have HN : Hid (failedBy k ⟨ms, ml, mg, mb, mp⟩ p = false) := by show _ = _; rw [HFB.out, r1, r2]; rfl
          go_wp2
          go_roundg (s.marks.length - (j + 1))
          case measure => rw [HGK.out]; omega
          case rel => exact ⟨j + 1, ⟨_, Below.alloc' z.prop _⟩, rfl, by omega, by go_num, rfl, fun i m' k' hi hx hy => by
           by_cases e : i = j
           · subst e
             rw [HM.out] at hx
             rw [HK.out] at hy
             injection hx with hx
             injection hy with hy
             subst hx hy
             exact HN.out
           · exact hpre.out i m' k' (by omega) hx hy⟩
         | true =>
          have r2_0 : (ms != 4) = false := by simpa using r2
          cases r3 : (mb == p) with
          | false =>
           have r3_0 : (mb != p) = true := by simpa using r3
           have HN : Hid (failedBy k ⟨ms, ml, mg, mb, mp⟩ p = false) := by show _ = _; rw [HFB.out, r1, r2, r3]; rfl
           go_wp2
           go_roundg (s.marks.length - (j + 1))
           case measure => rw [HGK.out]; omega
           case rel => exact ⟨j + 1, ⟨_, Below.alloc' z.prop _⟩, rfl, by omega, by go_num, rfl, fun i m' k' hi hx hy => by
            by_cases e : i = j
            · subst e
              rw [HM.out] at hx
              rw [HK.out] at hy
              injection hx with hx
              injection hy with hy
              subst hx hy
              exact HN.out
            · exact hpre.out i m' k' (by omega) hx hy⟩
          | true =>
           have r3_0 : (mb != p) = false := by simpa using r3
           obtain rfl : E = true := by rw [← HE.out, HP1.out, anyFailed_yes HM.out HK.out (by rw [HFB.out, r1, r2, r3]; rfl)]; rfl
           go_wp2
           go_ret
           exact ⟨rfl, Below.step HB.out (Below.alloc' z.prop _)⟩
      · obtain rfl : j = s.marks.length := by omega
        obtain rfl : E = false := by rw [← HE.out, HP1.out, anyFailed_no (fun i m k hx hy => hpre.out i m k (List.getElem?_eq_some_iff.1 hx).1 hx hy)]; rfl
        go_wp2
        go_ret
        exact ⟨rfl, Below.step HB.out (Bl.prop _)⟩
   rotate_left
   focus
    have hP : br1 C s p = false := by unfold br1; rw [q1, q2]; rfl
    obtain rfl : E = false := by rw [← HE.out, hP]; rfl
    clear hP
  rotate_left 2
  focus
   have hP : br1 C s p = false := by unfold br1; rw [q1]; rfl
   obtain rfl : E = false := by rw [← HE.out, hP]; rfl
   clear hP
  all_goals
   go_wp2_with (first | (go_at_call 19; refine (HSV.out _).mono ?_; rintro e z ⟨rfl, hz⟩; obtain ⟨z, rfl⟩ := Bl.on hz; clear hz))
   first
    | (go_ret; exact ⟨rfl, Below.step HB.out (Bl.prop _)⟩)
    | (refine wp_region_bl (by kernel_rfl) (by kernel_rfl) ?_; (repeat (go_big_quiet_step ((first | (go_at_call 19; exact Calls.bl_of (HSV.out _)))))); refine wpQuiet_nil ?_; rintro _ ⟨zq, rfl⟩; go_wp2_with (first | (go_at_call 19; refine (HSV.out _).mono ?_; rintro e z ⟨rfl, hz⟩; obtain ⟨z, rfl⟩ := Bl.on hz; clear hz)); go_ret; exact ⟨rfl, Below.step HB.out (Bl.prop _)⟩)
end Go.Proofs.YtaielhafpmjkaaaGreatDoor
