/-
  Con4d
-/
import Derived.Test.YtahhdjeclbagnaaGreatDoorQ05
namespace Go.Proofs.YtahhdjeclbagnaaGreatDoor
open Go.RowKit
set_option maxRecDepth 100000 in
set_option maxHeartbeats 4000000 in
theorem validClause_t2 (v : CV) (C : KCon) (i : Nat) (k : KClause) (w : World) (hC : ConAt w v C) (hk : C.clauses[i]? = some k) (x1 : okCl1 C k.kind k.role k.act k.need k.grace k.after k.final k.start.length = true) (xc : condsOk C i k.start = true) (y0 : (k.pause == -1) = true) (y1 : (k.resume == -1) = true) : Calls Tryz.prog 47 #[v.val C, .int .i64 i] w (RetB (.bool (okCl3 C k.kind k.unit k.value.num k.value.den k.tgt)) w) := by
 have hil : i < C.clauses.length := (List.getElem?_eq_some_iff.1 hk).1
 obtain ⟨b, off, ⟨stA, stc⟩, hA0, hb, hcell, hst⟩ := hC.clause hk
 obtain ⟨⟨hA, hcp⟩, ⟨uA, ucp⟩, ⟨aA, acp⟩, ⟨kA, kcp⟩, ⟨oA, ocp⟩⟩ := v
 simp only at hA0
 subst hA0
 obtain ⟨ki, ro, ac, ne, start, af, gr, bu, fi, pa, re, ⟨vn, vd⟩, un, tg, wa⟩ := k
 simp only at x1 xc y0 y1
 have Hx1 := Lib.hid x1; clear x1
 have Hxc := Lib.hid xc; clear xc
 have hsx : start.length ≤ 9223372036854775807 := by have h1 := hst.2.2.1; have h2 := hst.2.2.2; unfold maxLen at h2; simp only at h1 h2 ⊢; omega
 have HC := Lib.hid hC; clear hC
 have HST := Lib.hid hst; clear hst
 simp only [CV.val, CV.cells]
 have hm : ∀ (r : Int) (W : World), Calls Tryz.prog 72 #[.agg #[.int .i64 C.parties, .slice hA C.holders.length hcp, .slice uA C.units.length ucp, .slice aA C.acts.length acp, .slice (some ⟨b, off, none⟩) C.clauses.length kcp, .int .i64 C.days, .slice oA C.off.length ocp], .int .i64 r] W (RetB (.bool (C.role r)) W) := fun r W => movable_any (⟨⟨hA, hcp⟩, ⟨uA, ucp⟩, ⟨aA, acp⟩, ⟨some ⟨b, off, none⟩, kcp⟩, ⟨oA, ocp⟩⟩ : CV) C r W
 have HM := Lib.hid hm; clear hm
 have HMT : Hid (∀ (r : Int) (W : World), C.role r = true → Calls Tryz.prog 72 #[.agg #[.int .i64 C.parties, .slice hA C.holders.length hcp, .slice uA C.units.length ucp, .slice aA C.acts.length acp, .slice (some ⟨b, off, none⟩) C.clauses.length kcp, .int .i64 C.days, .slice oA C.off.length ocp], .int .i64 r] W (RetB (.bool true) W)) := fun r W h => by have := HM.out r W; rw [h] at this; exact this
 have HMF : Hid (∀ (r : Int) (W : World), C.role r = false → Calls Tryz.prog 72 #[.agg #[.int .i64 C.parties, .slice hA C.holders.length hcp, .slice uA C.units.length ucp, .slice aA C.acts.length acp, .slice (some ⟨b, off, none⟩) C.clauses.length kcp, .int .i64 C.days, .slice oA C.off.length ocp], .int .i64 r] W (RetB (.bool false) W)) := fun r W h => by have := HM.out r W; rw [h] at this; exact this
 have hp : ∀ W, Calls Tryz.prog 71 #[.agg #[.int .i64 vn, .int .i64 vd]] W (RetB (.bool (KRatio.plus ⟨vn, vd⟩)) W) := fun W => positive_any ⟨vn, vd⟩ W
 have HP := Lib.hid hp; clear hp
 have HPT : Hid (∀ W, KRatio.plus ⟨vn, vd⟩ = true → Calls Tryz.prog 71 #[.agg #[.int .i64 vn, .int .i64 vd]] W (RetB (.bool true) W)) := fun W h => by have := HP.out W; rw [h] at this; exact this
 have HPF : Hid (∀ W, KRatio.plus ⟨vn, vd⟩ = false → Calls Tryz.prog 71 #[.agg #[.int .i64 vn, .int .i64 vd]] W (RetB (.bool false) W)) := fun W h => by have := HP.out W; rw [h] at this; exact this
 have heq := fun (w : World) => run_eql_ratio w vn vd
 obtain ⟨c0, c1, c2, c3, c4, c5, c6, c7, c8, c9, c10, c11, c12, c13, c14, c15⟩ := rw16 (hcell w (Below.refl _ _)) rfl
 clear hcell
 have i0 : (0 : Int) ≤ (i : Int) := by omega
 have i1 : (i : Int) < (C.clauses.length : Int) := by omega
 generalize hE : okCl3 C ki un vn vd tg = E
 have HE := Lib.hid hE; clear hE
 go_enter Tryz.func47, Tryz.ntmps47
 go_upto_region 2 with (fail)
 generalize hW0 : World.alloc _ _ = W0
 obtain ⟨HB, hh0, hh1⟩ := bx2 hW0
 have HW0 := Lib.hid hW0.symm
 clear hW0
 obtain ⟨k0_0, k0_1, k0_2, k0_3, k0_4, k0_5, k0_6⟩ := kc7 hh0
 clear hh0
 obtain ⟨k1_0, k1_1, k1_2, k1_3, k1_4, k1_5, k1_6, k1_7, k1_8, k1_9, k1_10, k1_11, k1_12, k1_13, k1_14, k1_15⟩ := kc16 hh1
 clear hh1
 change Code.wp _ _ _ _ (Bl.val (⟨W0, Below.refl _ _⟩ : Bl W0))
 generalize (⟨W0, Below.refl _ _⟩ : Bl W0) = s0
 clear c0 c1 c2 c3 c4 c5 c6 c7 c8 c9 c10 c11 c12 c13 c14 c15
 have hn : ∀ (i : Int) (s : Bl W0), Calls Tryz.prog 69 #[.agg #[.int .i64 C.parties, .slice hA C.holders.length hcp, .slice uA C.units.length ucp, .slice aA C.acts.length acp, .slice (some ⟨b, off, none⟩) C.clauses.length kcp, .int .i64 C.days, .slice oA C.off.length ocp], .int .i64 i] s.val (RetB (.bool (C.natural i)) s.val) := fun i s => natural_any (⟨⟨hA, hcp⟩, ⟨uA, ucp⟩, ⟨aA, acp⟩, ⟨some ⟨b, off, none⟩, kcp⟩, ⟨oA, ocp⟩⟩ : CV) C i s.val (HC.out.below (Below.step HB.out s.prop))
 have HN := Lib.hid hn; clear hn
 have HNT : Hid (∀ (r : Int) (W : Bl W0), C.natural r = true → Calls Tryz.prog 69 #[.agg #[.int .i64 C.parties, .slice hA C.holders.length hcp, .slice uA C.units.length ucp, .slice aA C.acts.length acp, .slice (some ⟨b, off, none⟩) C.clauses.length kcp, .int .i64 C.days, .slice oA C.off.length ocp], .int .i64 r] W.val (RetB (.bool true) W.val)) := fun r W h => by have := HN.out r W; rw [h] at this; exact this
 have HNF : Hid (∀ (r : Int) (W : Bl W0), C.natural r = false → Calls Tryz.prog 69 #[.agg #[.int .i64 C.parties, .slice hA C.holders.length hcp, .slice uA C.units.length ucp, .slice aA C.acts.length acp, .slice (some ⟨b, off, none⟩) C.clauses.length kcp, .int .i64 C.days, .slice oA C.off.length ocp], .int .i64 r] W.val (RetB (.bool false) W.val)) := fun r W h => by have := HN.out r W; rw [h] at this; exact this
 have hkd : ∀ s : Bl W0, Calls Tryz.prog 68 #[.agg #[.int .i64 C.parties, .slice hA C.holders.length hcp, .slice uA C.units.length ucp, .slice aA C.acts.length acp, .slice (some ⟨b, off, none⟩) C.clauses.length kcp, .int .i64 C.days, .slice oA C.off.length ocp], .agg #[.int .i64 ki, .int .i64 ro, .int .i64 ac, .int .i64 ne, .slice stA start.length stc, .int .i64 af, .int .i64 gr, .bool bu, .bool fi, .int .i64 pa, .int .i64 re, .int .i64 vn, .int .i64 vd, .int .i64 un, .int .i64 tg, .bool wa]] s.val (RetB (.bool (okKindB C ki ro ac ne gr fi)) s.val) := fun s => validKind_raw (⟨⟨hA, hcp⟩, ⟨uA, ucp⟩, ⟨aA, acp⟩, ⟨some ⟨b, off, none⟩, kcp⟩, ⟨oA, ocp⟩⟩ : CV) C ki ro ac ne ⟨stA, stc⟩ start.length af gr bu fi pa re vn vd un tg wa s.val (HC.out.below (Below.step HB.out s.prop))
 have HKD := Lib.hid hkd; clear hkd
 have hz : Hid (w.heap.size ≤ W0.heap.size) := HB.out.size
 cases q1 : decide (ac < 0) with
 | false =>
  cases q2 : decide ((C.acts.length : Int) ≤ ac) with
  | false =>
   cases q3 : decide (af < 1) with
   | false =>
    cases q4 : decide (400 < af) with
    | false =>
     cases q5 : (okKindB C ki ro ac ne gr fi) with
     | false =>
      have hP1 : okCl1 C ki ro ac ne gr af fi start.length = false := by unfold okCl1; rw [q1, q2, q3, q4, q5]; rfl
      rw [Hx1.out] at hP1; cases hP1
     | true =>
      cases q6 : decide (8 < (start.length : Int)) with
      | false =>
       have hP1 : okCl1 C ki ro ac ne gr af fi start.length = true := by unfold okCl1; rw [q1, q2, q3, q4, q5, q6]; rfl
       clear hP1
       go_wp2_with (first | (go_at_call 72; refine (HM.out _ _).mono ?_; rintro e z ⟨rfl, hz⟩; obtain ⟨z, rfl⟩ := Bl.on hz; clear hz) | (go_at_call 69; refine (HN.out _ _).mono ?_; rintro e z ⟨rfl, hz⟩; obtain ⟨z, rfl⟩ := Bl.on hz; clear hz) | (go_at_call 70; refine (none_any _).mono ?_; rintro e z ⟨rfl, hz⟩; obtain ⟨z, rfl⟩ := Bl.on hz; clear hz) | (go_at_call 71; refine (HP.out _).mono ?_; rintro e z ⟨rfl, hz⟩; obtain ⟨z, rfl⟩ := Bl.on hz; clear hz) | (go_at_call 68; refine (HKD.out _).mono ?_; rintro e z ⟨rfl, hz⟩; obtain ⟨z, rfl⟩ := Bl.on hz; clear hz))
       go_loopg [47] start.length (fun gk v47 wr => ∃ (j : Nat) (z : Bl W0), gk = start.length - j ∧ j ≤ start.length ∧ v47 = .int .i64 j ∧ wr = z.val ∧ Hid (condsOk C i (start.take j) = true))
       case atStart => exact ⟨0, _, rfl, Nat.zero_le _, rfl, rfl, rfl⟩
       case round =>
        obtain ⟨j, z, hgk, hj, rfl, rfl, hpre⟩ := hrel
        have HGK := Lib.hid hgk; clear hgk
        by_cases hlt : j < start.length
        · obtain ⟨⟨cl, is⟩, hx⟩ : ∃ x, start[j]? = some x := ⟨start[j], List.getElem?_eq_getElem hlt⟩
          obtain ⟨b2, off2, hA2, hb2, hc2⟩ := (HST.out.below (by omega) (Below.step HB.out z.prop)).1.form (by omega) (by omega)
          try simp only at hA2
          subst hA2
          have e0 : z.val.cell? ⟨b2, off2 + j * 2, none⟩ = some (.int .i64 cl) := by rw [hc2 _ (by omega)]; exact get_flat KCond.cells 2 (fun _ => rfl) start j 0 _ hx (by omega)
          have e1 : z.val.cell? ⟨b2, off2 + j * 2 + 1, none⟩ = some (.int .i64 is) := by rw [Nat.add_assoc, hc2 _ (by omega)]; exact get_flat KCond.cells 2 (fun _ => rfl) start j 1 _ hx (by omega)
          clear hc2
          have HX := Lib.hid hx; clear hx
          have j1 : (j : Int) < (start.length : Int) := by omega
          have hw2 : W0.heap.size = w.heap.size + 1 + 1 := by rw [HW0.out]; simp
          have hl0 : w.heap.size < z.val.heap.size := by have h1 := z.prop.size; omega
          have hl1 : w.heap.size + 1 < z.val.heap.size := by have h1 := z.prop.size; omega
          clear hw2
          cases q1 : decide (cl < 0) with
          | false =>
           cases q2 : decide ((C.clauses.length : Int) ≤ cl) with
           | false =>
            cases q3 : (cl == (i : Int)) with
            | false =>
             have q3_0 : (cl != (i : Int)) = true := by simpa using q3
             cases q4 : decide (is < 1) with
             | false =>
              cases q5 : decide (4 < is) with
              | false =>
               have hPc : condOkB C i cl is = true := by unfold condOkB; rw [q1, q2, q3, q4, q5]; rfl
               go_wp2
               go_roundg (start.length - (j + 1))
               case measure => rw [HGK.out]; omega
               case rel => exact ⟨j + 1, ⟨_, Below.alloc' z.prop _⟩, rfl, by omega, by go_num, rfl, condsOk_snoc HX.out hpre.out hPc⟩
              | true =>
               have hPc : condOkB C i cl is = false := by unfold condOkB; rw [q1, q2, q3, q4, q5]; rfl
               have hcs := condsOk_bad HX.out hPc
               rw [Hxc.out] at hcs; cases hcs
             | true =>
              have hPc : condOkB C i cl is = false := by unfold condOkB; rw [q1, q2, q3, q4]; rfl
              have hcs := condsOk_bad HX.out hPc
              rw [Hxc.out] at hcs; cases hcs
            | true =>
             have q3_0 : (cl != (i : Int)) = false := by simpa using q3
             have hPc : condOkB C i cl is = false := by unfold condOkB; rw [q1, q2, q3]; rfl
             have hcs := condsOk_bad HX.out hPc
             rw [Hxc.out] at hcs; cases hcs
           | true =>
            have hPc : condOkB C i cl is = false := by unfold condOkB; rw [q1, q2]; rfl
            have hcs := condsOk_bad HX.out hPc
            rw [Hxc.out] at hcs; cases hcs
          | true =>
           have hPc : condOkB C i cl is = false := by unfold condOkB; rw [q1]; rfl
           have hcs := condsOk_bad HX.out hPc
           rw [Hxc.out] at hcs; cases hcs
        · obtain rfl : j = start.length := by omega
          have hcs : condsOk C i start = true := by have h := hpre.out; rwa [List.take_of_length_le (Nat.le_refl _)] at h
          clear hcs
          have y0_0 : (pa != -1) = false := by simpa using y0
          have y1_0 : (re != -1) = false := by simpa using y1
          focus
           cases q1 : (un == -1)
           focus
            have q1_0 : (un != -1) = true := by simpa using q1
            cases q2 : (ki == 1)
            focus
             have q2_0 : (ki != 1) = true := by simpa using q2
             cases q3 : (ki == 2)
             focus
              have q3_0 : (ki != 2) = true := by simpa using q3
              have hP3 : okCl3 C ki un vn vd tg = false := by unfold okCl3; rw [q1, q2, q3]; rfl
              obtain rfl : E = false := by rw [← HE.out, hP3]
              clear hP3
             rotate_left
             focus
              have q3_0 : (ki != 2) = false := by simpa using q3
              cases q4 : decide (0 ≤ un)
              focus
               have hP3 : okCl3 C ki un vn vd tg = false := by unfold okCl3; rw [q1, q2, q3, q4]; rfl
               obtain rfl : E = false := by rw [← HE.out, hP3]
               clear hP3
              rotate_left
              focus
               cases q5 : decide (un < (C.units.length : Int))
               focus
                have hP3 : okCl3 C ki un vn vd tg = false := by unfold okCl3; rw [q1, q2, q3, q4, q5]; rfl
                obtain rfl : E = false := by rw [← HE.out, hP3]
                clear hP3
               rotate_left
               focus
                obtain ⟨ub, uoff, ⟨hu0, hu⟩⟩ : ∃ ub uoff, uA = some ⟨ub, uoff, none⟩ ∧ ∀ s : Bl W0, s.val.cell? ⟨ub, uoff + un.toNat * 5 + 1, none⟩ = some (.int .i64 (C.unitKind un)) := by
                 have h0 : (0 : Int) ≤ un := of_decide_eq_true (by assumption)
                 have h1 : un < (C.units.length : Int) := of_decide_eq_true (by assumption)
                 obtain ⟨a, ha⟩ : ∃ a, C.units[un.toNat]? = some a := ⟨C.units[un.toNat]'(by omega), List.getElem?_eq_getElem _⟩
                 obtain ⟨ub, uoff, e1, e2, e3⟩ := HC.out.unit ha
                 refine ⟨ub, uoff, e1, fun s => ?_⟩
                 rw [e3 s.val (Below.step HB.out s.prop) 1 (by omega)]
                 simp [KUnit.cells, KCon.unitKind, h0, ha]
                subst hu0
                have un0 : (0 : Int) ≤ un := of_decide_eq_true (by assumption)
                have un1 : un < (C.units.length : Int) := of_decide_eq_true (by assumption)
                cases q6 : (C.unitKind un == 2)
                focus
                 have hP3 : okCl3 C ki un vn vd tg = false := by unfold okCl3; rw [q1, q2, q3, q4, q5, q6]; rfl
                 obtain rfl : E = false := by rw [← HE.out, hP3]
                 clear hP3
                rotate_left
                focus
                 cases q7 : (KRatio.plus ⟨vn, vd⟩)
                 focus
                  have hP3 : okCl3 C ki un vn vd tg = false := by unfold okCl3; rw [q1, q2, q3, q4, q5, q6, q7]; rfl
                  obtain rfl : E = false := by rw [← HE.out, hP3]
                  clear hP3
                 rotate_left
                 focus
                  cases q8 : (C.role tg)
                  focus
                   have hP3 : okCl3 C ki un vn vd tg = false := by unfold okCl3; rw [q1, q2, q3, q4, q5, q6, q7, q8]; rfl
                   obtain rfl : E = false := by rw [← HE.out, hP3]
                   clear hP3
                  rotate_left
                  focus
                   have hP3 : okCl3 C ki un vn vd tg = true := by unfold okCl3; rw [q1, q2, q3, q4, q5, q6, q7, q8]; rfl
                   obtain rfl : E = true := by rw [← HE.out, hP3]
                   clear hP3
            rotate_left 7
            focus
             have q2_0 : (ki != 1) = false := by simpa using q2
             cases q3 : decide (0 ≤ un)
             focus
              have hP3 : okCl3 C ki un vn vd tg = false := by unfold okCl3; rw [q1, q2, q3]; rfl
              obtain rfl : E = false := by rw [← HE.out, hP3]
              clear hP3
             rotate_left
             focus
              cases q4 : decide (un < (C.units.length : Int))
              focus
               have hP3 : okCl3 C ki un vn vd tg = false := by unfold okCl3; rw [q1, q2, q3, q4]; rfl
               obtain rfl : E = false := by rw [← HE.out, hP3]
               clear hP3
              rotate_left
              focus
               obtain ⟨ub, uoff, ⟨hu0, hu⟩⟩ : ∃ ub uoff, uA = some ⟨ub, uoff, none⟩ ∧ ∀ s : Bl W0, s.val.cell? ⟨ub, uoff + un.toNat * 5 + 1, none⟩ = some (.int .i64 (C.unitKind un)) := by
                have h0 : (0 : Int) ≤ un := of_decide_eq_true (by assumption)
                have h1 : un < (C.units.length : Int) := of_decide_eq_true (by assumption)
                obtain ⟨a, ha⟩ : ∃ a, C.units[un.toNat]? = some a := ⟨C.units[un.toNat]'(by omega), List.getElem?_eq_getElem _⟩
                obtain ⟨ub, uoff, e1, e2, e3⟩ := HC.out.unit ha
                refine ⟨ub, uoff, e1, fun s => ?_⟩
                rw [e3 s.val (Below.step HB.out s.prop) 1 (by omega)]
                simp [KUnit.cells, KCon.unitKind, h0, ha]
               subst hu0
               have un0 : (0 : Int) ≤ un := of_decide_eq_true (by assumption)
               have un1 : un < (C.units.length : Int) := of_decide_eq_true (by assumption)
               cases q5 : (C.unitKind un == 2)
               focus
                have hP3 : okCl3 C ki un vn vd tg = false := by unfold okCl3; rw [q1, q2, q3, q4, q5]; rfl
                obtain rfl : E = false := by rw [← HE.out, hP3]
                clear hP3
               rotate_left
               focus
                cases q6 : (KRatio.plus ⟨vn, vd⟩)
                focus
                 have hP3 : okCl3 C ki un vn vd tg = false := by unfold okCl3; rw [q1, q2, q3, q4, q5, q6]; rfl
                 obtain rfl : E = false := by rw [← HE.out, hP3]
                 clear hP3
                rotate_left
                focus
                 cases q7 : (C.role tg)
                 focus
                  have hP3 : okCl3 C ki un vn vd tg = false := by unfold okCl3; rw [q1, q2, q3, q4, q5, q6, q7]; rfl
                  obtain rfl : E = false := by rw [← HE.out, hP3]
                  clear hP3
                 rotate_left
                 focus
                  have hP3 : okCl3 C ki un vn vd tg = true := by unfold okCl3; rw [q1, q2, q3, q4, q5, q6, q7]; rfl
                  obtain rfl : E = true := by rw [← HE.out, hP3]
                  clear hP3
           rotate_left 13
           focus
            have q1_0 : (un != -1) = false := by simpa using q1
            cases q2 : (KRatio.zero ⟨vn, vd⟩)
            focus
             have hP3 : okCl3 C ki un vn vd tg = false := by unfold okCl3; rw [q1, q2]; rfl
             obtain rfl : E = false := by rw [← HE.out, hP3]
             clear hP3
            rotate_left
            focus
             cases q3 : (tg == -1)
             focus
              have q3_0 : (tg != -1) = true := by simpa using q3
              have hP3 : okCl3 C ki un vn vd tg = false := by unfold okCl3; rw [q1, q2, q3]; rfl
              obtain rfl : E = false := by rw [← HE.out, hP3]
              clear hP3
             rotate_left
             focus
              have q3_0 : (tg != -1) = false := by simpa using q3
              have hP3 : okCl3 C ki un vn vd tg = true := by unfold okCl3; rw [q1, q2, q3]; rfl
              obtain rfl : E = true := by rw [← HE.out, hP3]
              clear hP3
           all_goals
            go_wp2_with (first | (go_at_call 72; refine (HM.out _ _).mono ?_; rintro e z ⟨rfl, hz⟩; obtain ⟨z, rfl⟩ := Bl.on hz; clear hz) | (go_at_call 69; refine (HN.out _ _).mono ?_; rintro e z ⟨rfl, hz⟩; obtain ⟨z, rfl⟩ := Bl.on hz; clear hz) | (go_at_call 70; refine (none_any _).mono ?_; rintro e z ⟨rfl, hz⟩; obtain ⟨z, rfl⟩ := Bl.on hz; clear hz) | (go_at_call 71; refine (HP.out _).mono ?_; rintro e z ⟨rfl, hz⟩; obtain ⟨z, rfl⟩ := Bl.on hz; clear hz) | (go_at_call 68; refine (HKD.out _).mono ?_; rintro e z ⟨rfl, hz⟩; obtain ⟨z, rfl⟩ := Bl.on hz; clear hz))
            first
             | (go_ret; exact ⟨rfl, Below.step HB.out (Bl.prop _)⟩)
             | (refine wp_region_bl (by kernel_rfl) (by kernel_rfl) ?_; (repeat (go_big_quiet_step ((first | (go_at_call 72; refine Calls.bl_of (HMT.out _ _ ?_); assumption) | (go_at_call 72; refine Calls.bl_of (HMF.out _ _ ?_); assumption) | (go_at_call 72; exact Calls.bl_of (HM.out _ _)) | (go_at_call 69; refine Calls.bl_of (HNT.out _ _ ?_); assumption) | (go_at_call 69; refine Calls.bl_of (HNF.out _ _ ?_); assumption) | (go_at_call 69; exact Calls.bl_of (HN.out _ _)) | (go_at_call 70; exact Calls.bl_of (none_any _)) | (go_at_call 71; refine Calls.bl_of (HPT.out _ ?_); assumption) | (go_at_call 71; refine Calls.bl_of (HPF.out _ ?_); assumption) | (go_at_call 71; exact Calls.bl_of (HP.out _)) | (go_at_call 68; exact Calls.bl_of (HKD.out _)))))); refine wpQuiet_nil ?_; rintro _ ⟨zq, rfl⟩; go_wp2_with (first | (go_at_call 72; refine (HM.out _ _).mono ?_; rintro e z ⟨rfl, hz⟩; obtain ⟨z, rfl⟩ := Bl.on hz; clear hz) | (go_at_call 69; refine (HN.out _ _).mono ?_; rintro e z ⟨rfl, hz⟩; obtain ⟨z, rfl⟩ := Bl.on hz; clear hz) | (go_at_call 70; refine (none_any _).mono ?_; rintro e z ⟨rfl, hz⟩; obtain ⟨z, rfl⟩ := Bl.on hz; clear hz) | (go_at_call 71; refine (HP.out _).mono ?_; rintro e z ⟨rfl, hz⟩; obtain ⟨z, rfl⟩ := Bl.on hz; clear hz) | (go_at_call 68; refine (HKD.out _).mono ?_; rintro e z ⟨rfl, hz⟩; obtain ⟨z, rfl⟩ := Bl.on hz; clear hz)); go_ret; exact ⟨rfl, Below.step HB.out (Bl.prop _)⟩)
      | true =>
       have hP1 : okCl1 C ki ro ac ne gr af fi start.length = false := by unfold okCl1; rw [q1, q2, q3, q4, q5, q6]; rfl
       rw [Hx1.out] at hP1; cases hP1
    | true =>
     have hP1 : okCl1 C ki ro ac ne gr af fi start.length = false := by unfold okCl1; rw [q1, q2, q3, q4]; rfl
     rw [Hx1.out] at hP1; cases hP1
   | true =>
    have hP1 : okCl1 C ki ro ac ne gr af fi start.length = false := by unfold okCl1; rw [q1, q2, q3]; rfl
    rw [Hx1.out] at hP1; cases hP1
  | true =>
   have hP1 : okCl1 C ki ro ac ne gr af fi start.length = false := by unfold okCl1; rw [q1, q2]; rfl
   rw [Hx1.out] at hP1; cases hP1
 | true =>
  have hP1 : okCl1 C ki ro ac ne gr af fi start.length = false := by unfold okCl1; rw [q1]; rfl
  rw [Hx1.out] at hP1; cases hP1
end Go.Proofs.YtahhdjeclbagnaaGreatDoor
