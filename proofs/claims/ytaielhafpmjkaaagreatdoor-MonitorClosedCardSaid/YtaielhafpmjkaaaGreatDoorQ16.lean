/-
  Start2; Doer
-/
import Derived.Test.YtaielhafpmjkaaaGreatDoorQ15
namespace Go.Proofs.YtaielhafpmjkaaaGreatDoor
open Go.RowKit
theorem WorkPost.trans' {w0 w w1 : World} {g : Nat} {v : CV} {C : KCon} {t : TV} {s' : KState} {gh gu gm : Nat} {e : Ending} {w' : World} (h : WorkPost w0 g v C t s' gh gu gm w1 e w') (hs : w.heap.size ≤ w1.heap.size) : WorkPost w0 g v C t s' gh gu gm w e w' :=
 ⟨h.1, h.2.1, Nat.le_trans hs h.2.2⟩
set_option maxRecDepth 100000 in
set_option maxHeartbeats 4000000 in
theorem start_any {w0 w : World} {g : Nat} {v : CV} {C : KCon} {t : TV} {s : KState} {gh gu gm : Nat} (h : WorkAt w0 w g v C t s gh gu gm) (hlen : s.marks.length = C.clauses.length)
 (hin : ∀ k ∈ C.clauses, ∀ c ∈ k.start, 0 ≤ c.clause ∧ c.clause < C.clauses.length) (hro : ∀ k ∈ C.clauses, k.kind ≠ 4 → 0 ≤ k.role ∧ k.role < s.holders.length) :
 Calls Tryz.prog 69 #[.pointer (some ⟨g, 0, none⟩)] w (WorkPostU w0 g v C t ⟨s.day, s.holders, s.used, C.begin s.holders s.marks⟩ gh gu gm w) := by
 have HL := Lib.hid hlen; clear hlen
 have HIN := Lib.hid hin; clear hin
 have HRO := Lib.hid hro; clear hro
 obtain ⟨day, holders, used, ms0⟩ := s
 have H := Lib.hid h; clear h
 go_enter Tryz.func69, Tryz.ntmps69
 go_wp2
 go_loopg [2] (idle ms0 + 1) (fun gk v2 wr => ∃ (ms : List KMark) (again : Bool), gk = idle ms + (cond again 1 0) ∧ v2 = .bool again ∧ ms.length = ms0.length ∧ Hid (Upd (Works g gh gu gm) w wr) ∧ Hid (WorkAt w0 wr g v C t ⟨day, holders, used, ms⟩ gh gu gm) ∧ Hid (C.begin holders ms0 = cond again (C.begin holders ms) ms))
 case atStart => exact ⟨ms0, true, rfl, rfl, rfl, Upd.refl _ _, H, rfl⟩
 case round =>
  obtain ⟨ms, again, hgk, rfl, hml, HSZ, HW, HB⟩ := hrel
  have HGK := Lib.hid hgk; clear hgk
  have HML := Lib.hid hml; clear hml
  cases again with
  | false =>
   go_wp2
   go_end0
   refine ⟨rfl, ?_, HSZ.out⟩
   rw [HB.out]
   exact HW.out
  | true =>
   obtain ⟨moff, hmA, hrest⟩ := HW.out.marks.at0
   obtain ⟨hoff, hhA, hrest2⟩ := HW.out.holderCell
   clear hrest hrest2
   obtain ⟨⟨thA, thc⟩, ⟨tuA, tuc⟩, ⟨tmA, tmc⟩⟩ := t
   obtain ⟨⟨vhA, vhc⟩, ⟨vuA, vuc⟩, ⟨vaA, vac⟩, ⟨vkA, vkc⟩, ⟨voA, voc⟩⟩ := v
   simp only at hmA hhA
   subst hmA hhA
   have k4 := HW.out.cell 4
   simp only at k4
   have hcl : C.clauses.length ≤ 9223372036854775807 := by
    obtain ⟨ss, _, h2, _⟩ := HW.out.con.clauses
    have h3 := h2.2.2.1
    have h4 := h2.2.2.2
    unfold maxLen at h4
    omega
   go_wp2
   go_loopg [13, 2] C.clauses.length (fun gk2 v13 v2 wr2 => ∃ (j : Nat), gk2 = C.clauses.length - j ∧ j ≤ C.clauses.length ∧ v13 = .int .i64 j ∧ v2 = .bool (firedTo C holders ms j) ∧ Hid (Upd (Works g gh gu gm) wr wr2) ∧ Hid (WorkAt w0 wr2 g ⟨⟨vhA, vhc⟩, ⟨vuA, vuc⟩, ⟨vaA, vac⟩, ⟨vkA, vkc⟩, ⟨voA, voc⟩⟩ C ⟨⟨some ⟨gh, hoff, none⟩, thc⟩, ⟨tuA, tuc⟩, ⟨some ⟨gm, moff, none⟩, tmc⟩⟩ ⟨day, holders, used, startTo C holders ms j⟩ gh gu gm))
   case atStart => exact ⟨0, rfl, Nat.zero_le _, rfl, rfl, Upd.refl _ _, HW⟩
   case round =>
    obtain ⟨j, hgk2, hj, rfl, rfl, HS2, HW2⟩ := hrel
    have HGK2 := Lib.hid hgk2; clear hgk2
    by_cases hlt : j < C.clauses.length
    · have hmlen : (startTo C holders ms j).length = C.clauses.length := by rw [startTo_len, HML.out, HL.out]
      generalize hM : startTo C holders ms j = M at HW2 hmlen
      have HM := Lib.hid hM; clear hM
      have HML2 := Lib.hid hmlen; clear hmlen
      obtain ⟨m, hm⟩ : ∃ m, M[j]? = some m := ⟨M[j]'(by rw [HML2.out]; exact hlt), List.getElem?_eq_getElem _⟩
      obtain ⟨k, hk⟩ : ∃ k, C.clauses[j]? = some k := ⟨C.clauses[j], List.getElem?_eq_getElem hlt⟩
      have hkm : k ∈ C.clauses := List.mem_of_getElem? hk
      have HR : Hid (k.kind ≠ 4 → 0 ≤ k.role ∧ k.role < holders.length) := HRO.out k hkm
      obtain ⟨b, koff, st, hK, hbl, hkc, _⟩ := HW2.out.con.clause hk
      simp only at hK
      subst hK
      have hkc2 := hkc _ HW2.out.below
      obtain ⟨ki, ro, ac, ne, start, af, gr, bu, fi, pa, re, ⟨vn, vd⟩, un, tg, wa⟩ := k
      obtain ⟨stA, stc⟩ := st
      have c0 : wr.cell? ⟨b, koff + j * 16, none⟩ = some (.int .i64 ki) := hkc2 0 (by omega)
      have c1 : wr.cell? ⟨b, koff + j * 16 + 1, none⟩ = some (.int .i64 ro) := hkc2 1 (by omega)
      have c2 : wr.cell? ⟨b, koff + j * 16 + 2, none⟩ = some (.int .i64 ac) := hkc2 2 (by omega)
      have c3 : wr.cell? ⟨b, koff + j * 16 + 3, none⟩ = some (.int .i64 ne) := hkc2 3 (by omega)
      have c4 : wr.cell? ⟨b, koff + j * 16 + 4, none⟩ = some (.slice stA start.length stc) := hkc2 4 (by omega)
      have c5 : wr.cell? ⟨b, koff + j * 16 + 5, none⟩ = some (.int .i64 af) := hkc2 5 (by omega)
      have c6 : wr.cell? ⟨b, koff + j * 16 + 6, none⟩ = some (.int .i64 gr) := hkc2 6 (by omega)
      have c7 : wr.cell? ⟨b, koff + j * 16 + 7, none⟩ = some (.bool bu) := hkc2 7 (by omega)
      have c8 : wr.cell? ⟨b, koff + j * 16 + 8, none⟩ = some (.bool fi) := hkc2 8 (by omega)
      have c9 : wr.cell? ⟨b, koff + j * 16 + 9, none⟩ = some (.int .i64 pa) := hkc2 9 (by omega)
      have c10 : wr.cell? ⟨b, koff + j * 16 + 10, none⟩ = some (.int .i64 re) := hkc2 10 (by omega)
      have c11 : wr.cell? ⟨b, koff + j * 16 + 11, none⟩ = some (.int .i64 vn) := hkc2 11 (by omega)
      have c12 : wr.cell? ⟨b, koff + j * 16 + 12, none⟩ = some (.int .i64 vd) := hkc2 12 (by omega)
      have c13 : wr.cell? ⟨b, koff + j * 16 + 13, none⟩ = some (.int .i64 un) := hkc2 13 (by omega)
      have c14 : wr.cell? ⟨b, koff + j * 16 + 14, none⟩ = some (.int .i64 tg) := hkc2 14 (by omega)
      have c15 : wr.cell? ⟨b, koff + j * 16 + 15, none⟩ = some (.bool wa) := hkc2 15 (by omega)
      clear hkc2 hkc
      generalize hR : readyK M ⟨ki, ro, ac, ne, start, af, gr, bu, fi, pa, re, ⟨vn, vd⟩, un, tg, wa⟩ m = R
      have HRD := Lib.hid hR; clear hR
      have HK := Lib.hid hk; clear hk
      have HMJ := Lib.hid hm; clear hm
      clear hkm
      have j0 : (0 : Int) ≤ (j : Int) := by omega
      have j1 : (j : Int) < (C.clauses.length : Int) := by omega
      go_upto_region 6 with (fail)
      obtain ⟨W0, HW0⟩ : ∃ W0, Hid (W0 = wr.alloc (.cells #[.int .i64 ki, .int .i64 ro, .int .i64 ac, .int .i64 ne, .slice stA start.length stc, .int .i64 af, .int .i64 gr, .bool bu, .bool fi, .int .i64 pa, .int .i64 re, .int .i64 vn, .int .i64 vd, .int .i64 un, .int .i64 tg, .bool wa] 90)) := ⟨_, rfl⟩
      have hh0 : W0.heap[wr.heap.size]? = some (.cells #[.int .i64 ki, .int .i64 ro, .int .i64 ac, .int .i64 ne, .slice stA start.length stc, .int .i64 af, .int .i64 gr, .bool bu, .bool fi, .int .i64 pa, .int .i64 re, .int .i64 vn, .int .i64 vd, .int .i64 un, .int .i64 tg, .bool wa] 90 (0, 0)) := by rw [HW0.out]; exact heap_alloc_new wr _
      have HB0 : Hid (Below wr.heap.size wr W0) := by show Below _ _ _; rw [HW0.out]; exact Below.alloc' (Below.refl _ _) _
      rw [← HW0.out]
      change Code.wp _ _ _ _ (Bl.val (⟨W0, Below.refl _ _⟩ : Bl W0))
      generalize (⟨W0, Below.refl _ _⟩ : Bl W0) = s0
      clear c0 c1 c2 c3 c4 c5 c6 c7 c8 c9 c10 c11 c12 c13 c14 c15 k4
      have b0 : ∀ z : Bl W0, z.val.cell? ⟨wr.heap.size, 0, none⟩ = some (.int .i64 ki) := fun z => z.cell ((cell_of_row W0 _ 0 _ _ _ hh0).trans rfl)
      have b1 : ∀ z : Bl W0, z.val.cell? ⟨wr.heap.size, 1, none⟩ = some (.int .i64 ro) := fun z => z.cell ((cell_of_row W0 _ 1 _ _ _ hh0).trans rfl)
      have b5 : ∀ z : Bl W0, z.val.cell? ⟨wr.heap.size, 5, none⟩ = some (.int .i64 af) := fun z => z.cell ((cell_of_row W0 _ 5 _ _ _ hh0).trans rfl)
      clear hh0
      have HWZ : Hid (∀ z : Bl W0, WorkAt w0 z.val g ⟨⟨vhA, vhc⟩, ⟨vuA, vuc⟩, ⟨vaA, vac⟩, ⟨some ⟨b, koff, none⟩, vkc⟩, ⟨voA, voc⟩⟩ C ⟨⟨some ⟨gh, hoff, none⟩, thc⟩, ⟨tuA, tuc⟩, ⟨some ⟨gm, moff, none⟩, tmc⟩⟩ ⟨day, holders, used, M⟩ gh gu gm) := fun z => HW2.out.on (Below.step HB0.out z.prop)
      have g0 : ∀ z : Bl W0, z.val.cell? ⟨g, 0, none⟩ = some (.int .i64 C.parties) := fun z => (HWZ.out z).cell 0
      have g1 : ∀ z : Bl W0, z.val.cell? ⟨g, 1, none⟩ = some (.slice vhA C.holders.length vhc) := fun z => (HWZ.out z).cell 1
      have g2 : ∀ z : Bl W0, z.val.cell? ⟨g, 2, none⟩ = some (.slice vuA C.units.length vuc) := fun z => (HWZ.out z).cell 2
      have g3 : ∀ z : Bl W0, z.val.cell? ⟨g, 3, none⟩ = some (.slice vaA C.acts.length vac) := fun z => (HWZ.out z).cell 3
      have g4 : ∀ z : Bl W0, z.val.cell? ⟨g, 4, none⟩ = some (.slice (some ⟨b, koff, none⟩) C.clauses.length vkc) := fun z => (HWZ.out z).cell 4
      have g5 : ∀ z : Bl W0, z.val.cell? ⟨g, 5, none⟩ = some (.int .i64 C.days) := fun z => (HWZ.out z).cell 5
      have g6 : ∀ z : Bl W0, z.val.cell? ⟨g, 6, none⟩ = some (.slice voA C.off.length voc) := fun z => (HWZ.out z).cell 6
      have g7 : ∀ z : Bl W0, z.val.cell? ⟨g, 7, none⟩ = some (.int .i64 day) := fun z => (HWZ.out z).cell 7
      have g8 : ∀ z : Bl W0, z.val.cell? ⟨g, 8, none⟩ = some (.slice (some ⟨gh, hoff, none⟩) holders.length thc) := fun z => (HWZ.out z).cell 8
      have g9 : ∀ z : Bl W0, z.val.cell? ⟨g, 9, none⟩ = some (.slice tuA used.length tuc) := fun z => (HWZ.out z).cell 9
      have g10 : ∀ z : Bl W0, z.val.cell? ⟨g, 10, none⟩ = some (.slice (some ⟨gm, moff, none⟩) M.length tmc) := fun z => (HWZ.out z).cell 10
      have hrd : ∀ z : Bl W0, Calls Tryz.prog 46 #[.agg #[.int .i64 C.parties, .slice vhA C.holders.length vhc, .slice vuA C.units.length vuc, .slice vaA C.acts.length vac, .slice (some ⟨b, koff, none⟩) C.clauses.length vkc, .int .i64 C.days, .slice voA C.off.length voc], .agg #[.int .i64 day, .slice (some ⟨gh, hoff, none⟩) holders.length thc, .slice tuA used.length tuc, .slice (some ⟨gm, moff, none⟩) M.length tmc], .int .i64 j] z.val (RetB (.bool R) z.val) := fun z => by
       have h := ready_any (⟨⟨vhA, vhc⟩, ⟨vuA, vuc⟩, ⟨vaA, vac⟩, ⟨some ⟨b, koff, none⟩, vkc⟩, ⟨voA, voc⟩⟩ : CV) C (⟨⟨some ⟨gh, hoff, none⟩, thc⟩, ⟨tuA, tuc⟩, ⟨some ⟨gm, moff, none⟩, tmc⟩⟩ : TV) ⟨day, holders, used, M⟩ j ⟨ki, ro, ac, ne, start, af, gr, bu, fi, pa, re, ⟨vn, vd⟩, un, tg, wa⟩ m z.val ((HWZ.out z).con.below (HWZ.out z).below) (HWZ.out z).state HK.out HMJ.out (fun c hc => by rw [show (KState.mk day holders used M).marks = M from rfl, HML2.out]; exact HIN.out _ (List.mem_of_getElem? HK.out) c hc)
       rw [show readyK (KState.mk day holders used M).marks ⟨ki, ro, ac, ne, start, af, gr, bu, fi, pa, re, ⟨vn, vd⟩, un, tg, wa⟩ m = R from HRD.out] at h
       exact h
      have HRC := Lib.hid hrd; clear hrd
      have HF : Hid (firesAt C (startTo C holders ms j) j = R) := by show _ = _; rw [HM.out]; unfold firesAt; simp only [HK.out, HMJ.out]; exact HRD.out
      have HSX : ∀ z : Bl W0, Hid (wr.heap.size < z.val.heap.size) := fun z => by
       have h1 := z.prop.size
       have h2 : W0.heap.size = wr.heap.size + 1 := by rw [HW0.out]; simp
       show _ < _
       omega
      have HUX : ∀ z : Bl W0, Hid (Upd (Works g gh gu gm) wr z.val) := fun z => (Upd.of_below (Below.step HB0.out z.prop)).mono (fun i hi hk => by omega)
      have hgm : Works g gh gu gm gm := .inr (.inr (.inr rfl))
      cases R with
      | false =>
       refine wp_region_bl (by kernel_rfl) (by kernel_rfl) ?_; (repeat (go_big_quiet_step (((go_at_call 46; exact Calls.bl_of (HRC.out _)))))); refine wpQuiet_nil ?_; rintro _ ⟨zq, rfl⟩
       go_wp2
       go_roundg (C.clauses.length - (j + 1))
       case measure => rw [HGK2.out]; omega
       case rel => exact ⟨j + 1, rfl, by omega, by go_num, by rw [firedTo, HF.out, Bool.or_false], HS2.out.trans (HUX zq).out (fun _ _ h => h), by
        show WorkAt _ _ _ _ _ _ _ _ _ _
        rw [startTo, (startAt_idle C holders (startTo C holders ms j) j).2 HF.out, HM.out]
        exact HWZ.out zq⟩
      | true =>
       refine wp_region_bl (by kernel_rfl) (by kernel_rfl) ?_; (repeat (go_big_quiet_step (((go_at_call 46; exact Calls.bl_of (HRC.out _)))))); refine wpQuiet_nil ?_; rintro _ ⟨zq, rfl⟩
       obtain ⟨moff', hmA', hgl', hcell', hfz'⟩ := (HWZ.out zq).markAt HMJ.out
       simp only [Option.some.injEq, Addr.mk.injEq, true_and, and_true] at hmA'
       subst hmA'
       obtain ⟨m0, m1, m2, m3, m4⟩ := m
       have x0 : zq.val.cell? ⟨gm, moff + j * 5, none⟩ = some (.int .i64 m0) := hcell' 0 (by omega)
       have x1 : zq.val.cell? ⟨gm, moff + j * 5 + 1, none⟩ = some (.int .i64 m1) := hcell' 1 (by omega)
       have x2 : zq.val.cell? ⟨gm, moff + j * 5 + 2, none⟩ = some (.int .i64 m2) := hcell' 2 (by omega)
       have x3 : zq.val.cell? ⟨gm, moff + j * 5 + 3, none⟩ = some (.int .i64 m3) := hcell' 3 (by omega)
       have x4 : zq.val.cell? ⟨gm, moff + j * 5 + 4, none⟩ = some (.bool m4) := hcell' 4 (by omega)
       have f0 := hfz' (moff + j * 5)
       have f1 := hfz' (moff + j * 5 + 1)
       have f2 := hfz' (moff + j * 5 + 2)
       have f3 := hfz' (moff + j * 5 + 3)
       have f4 := hfz' (moff + j * 5 + 4)
       clear hcell' hfz'
       have hszq := (HSX zq).out
       have j2 : (j : Int) < (M.length : Int) := by rw [HML2.out]; exact j1
       cases q4 : (ki == 4) with
       | true =>
        have q4b : (ki != 4) = false := by simpa using q4
        go_wp2
        go_region
        all_goals
         go_wp2
         go_roundg (C.clauses.length - (j + 1))
         case measure => rw [HGK2.out]; omega
         case rel => exact ⟨j + 1, rfl, by omega, by go_num, by rw [firedTo, HF.out, Bool.or_true], HS2.out.trans ((((((HUX zq).out.setCell (.inl hgm) _).setCell (.inl hgm) _).setCell (.inl hgm) _).setCell (.inl hgm) _).setCell (.inl hgm) _).drew (fun _ _ h => h), by
          show WorkAt _ _ _ _ _ _ _ _ _ _
          have hbo : bearerOf holders ⟨ki, ro, ac, ne, start, af, gr, bu, fi, pa, re, ⟨vn, vd⟩, un, tg, wa⟩ = -1 := by unfold bearerOf; simp only [q4]; rfl
          have h8 := (HWZ.out zq).markSet HMJ.out 1 af 0 (-1) false
          have hf2 : firesAt C M j = true := by rw [← HM.out]; exact HF.out
          simp only [startTo, startAt, HK.out, HM.out, hf2, cond_true, liveK, hbo]
          exact h8.keep ((Upd.refl _ _).drew)⟩
       | false =>
        have q4b : (ki != 4) = true := by simpa using q4
        obtain ⟨r0, r1⟩ := HR.out (by simpa using q4)
        simp only at r0 r1
        obtain ⟨hoff', hhA', hhl', hhc'⟩ := (HWZ.out zq).holderCell
        simp only [Option.some.injEq, Addr.mk.injEq, true_and, and_true] at hhA'
        subst hhA'
        have y0 : zq.val.cell? ⟨gh, hoff + ro.toNat, none⟩ = some (.int .i64 (holderAt holders ro)) := by have h := hhc' ro.toNat (show ro.toNat < holders.length by omega); rwa [Int.toNat_of_nonneg r0] at h
        clear hhc'
        go_wp2
        go_quiet (fail)
        go_wp2
        go_region
        all_goals
         go_wp2
         go_roundg (C.clauses.length - (j + 1))
         case measure => rw [HGK2.out]; omega
         case rel => exact ⟨j + 1, rfl, by omega, by go_num, by rw [firedTo, HF.out, Bool.or_true], HS2.out.trans (((((((HUX zq).out.drewN (nq + 1)).setCell (.inl hgm) _).setCell (.inl hgm) _).setCell (.inl hgm) _).setCell (.inl hgm) _).setCell (.inl hgm) _) (fun _ _ h => h), by
          show WorkAt _ _ _ _ _ _ _ _ _ _
          have hbo : bearerOf holders ⟨ki, ro, ac, ne, start, af, gr, bu, fi, pa, re, ⟨vn, vd⟩, un, tg, wa⟩ = holderAt holders ro := by unfold bearerOf; simp only [q4]; rfl
          have h8 := ((HWZ.out zq).keep ((Upd.refl _ _).drewN (nq + 1))).markSet HMJ.out 1 af 0 (holderAt holders ro) false
          have hf2 : firesAt C M j = true := by rw [← HM.out]; exact HF.out
          simp only [startTo, startAt, HK.out, HM.out, hf2, cond_true, liveK, hbo]
          exact h8⟩
    · obtain rfl : j = C.clauses.length := by omega
      go_wp2
      cases q : firedTo C holders ms C.clauses.length with
      | true =>
       have h1 := (startTo_idle C holders ms C.clauses.length).1 q
       go_roundg (idle (startTo C holders ms C.clauses.length) + 1)
       case measure => rw [HGK.out]; simp only [cond_true]; omega
       case rel => exact ⟨_, true, rfl, rfl, by rw [startTo_len, HML.out], HSZ.out.trans HS2.out (fun _ _ h => h), HW2, by show _ = _; rw [HB.out, cond_true, cond_true, begin_fired q]⟩
      | false =>
       go_roundg (idle (startTo C holders ms C.clauses.length))
       case measure => rw [HGK.out, (startTo_idle C holders ms C.clauses.length).2 q]; simp only [cond_true]; omega
       case rel => exact ⟨_, false, rfl, rfl, by rw [startTo_len, HML.out], HSZ.out.trans HS2.out (fun _ _ h => h), HW2, by show _ = _; rw [HB.out, cond_true, cond_false, begin_still q, (startTo_idle C holders ms C.clauses.length).2 q]⟩
end Go.Proofs.YtaielhafpmjkaaaGreatDoor
namespace Go.Proofs.YtaielhafpmjkaaaGreatDoor
open Go.RowKit
def doerOf (hs : List Int) (a : KAct) : Int := cond (a.role == -1) (-1) (holderAt hs a.role)
set_option maxRecDepth 100000 in
set_option maxHeartbeats 4000000 in
theorem doer_any (v : CV) (C : KCon) (tv : TV) (s : KState) (i : Nat) (a : KAct) (w : World) (hC : ConAt w v C) (hS : StateAt w tv s) (ha : C.acts[i]? = some a) (hr : a.role ≠ -1 → 0 ≤ a.role ∧ a.role < s.holders.length) :
 Calls Tryz.prog 72 #[v.val C, tv.val s, .int .i64 i] w (RetB (.int .i64 (doerOf s.holders a)) w) := by
 have hil : i < C.acts.length := (List.getElem?_eq_some_iff.1 ha).1
 obtain ⟨b, off, hA0, hb, hcell⟩ := hC.act ha
 obtain ⟨⟨hA, hcp⟩, ⟨uA, ucp⟩, ⟨aA, acp⟩, ⟨kA, kcp⟩, ⟨oA, ocp⟩⟩ := v
 obtain ⟨⟨shA, shc⟩, ⟨suA, suc⟩, ⟨smA, smc⟩⟩ := tv
 simp only at hA0
 subst hA0
 obtain ⟨ki, ro, gi, tg, un, ⟨ln, ld⟩⟩ := a
 have HS := Lib.hid hS; clear hS
 have HR := Lib.hid hr; clear hr
 clear hC
 simp only [CV.val, CV.cells, TV.val, TV.cells, KState.cells]
 have i0 : (0 : Int) ≤ (i : Int) := by omega
 have i1 : (i : Int) < (C.acts.length : Int) := by omega
 generalize hE : doerOf s.holders ⟨ki, ro, gi, tg, un, ⟨ln, ld⟩⟩ = E
 have HE := Lib.hid hE; clear hE
 go_enter Tryz.func72, Tryz.ntmps72
 go_upto_region 1 with (fail)
 obtain ⟨W0, HW0⟩ : ∃ W0, Hid (W0 = (w.alloc (.cells #[.int .i64 C.parties, .slice hA C.holders.length hcp, .slice uA C.units.length ucp, .slice (some ⟨b, off, none⟩) C.acts.length acp, .slice kA C.clauses.length kcp, .int .i64 C.days, .slice oA C.off.length ocp] 27)).alloc (.cells #[.int .i64 s.day, .slice shA s.holders.length shc, .slice suA s.used.length suc, .slice smA s.marks.length smc] 43)) := ⟨_, rfl⟩
 have hh0 : W0.heap[w.heap.size]? = some (.cells #[.int .i64 C.parties, .slice hA C.holders.length hcp, .slice uA C.units.length ucp, .slice (some ⟨b, off, none⟩) C.acts.length acp, .slice kA C.clauses.length kcp, .int .i64 C.days, .slice oA C.off.length ocp] 27 (0, 0)) := by rw [HW0.out]; exact (Below.heap_alloc (w.alloc (.cells #[.int .i64 C.parties, .slice hA C.holders.length hcp, .slice uA C.units.length ucp, .slice (some ⟨b, off, none⟩) C.acts.length acp, .slice kA C.clauses.length kcp, .int .i64 C.days, .slice oA C.off.length ocp] 27)) _ (w.heap.size) (by simp)).trans (heap_alloc_new w (.cells #[.int .i64 C.parties, .slice hA C.holders.length hcp, .slice uA C.units.length ucp, .slice (some ⟨b, off, none⟩) C.acts.length acp, .slice kA C.clauses.length kcp, .int .i64 C.days, .slice oA C.off.length ocp] 27))
 have k0 : ∀ sB : Bl W0, sB.val.cell? ⟨w.heap.size, 3, none⟩ = some (.slice (some ⟨b, off, none⟩) C.acts.length acp) := fun sB => sB.cell ((cell_of_row W0 _ 3 _ _ _ hh0).trans rfl)
 clear hh0
 have hh1 : W0.heap[w.heap.size + 1]? = some (.cells #[.int .i64 s.day, .slice shA s.holders.length shc, .slice suA s.used.length suc, .slice smA s.marks.length smc] 43 (0, 0)) := by rw [HW0.out]; exact (by have h := heap_alloc_new (w.alloc (.cells #[.int .i64 C.parties, .slice hA C.holders.length hcp, .slice uA C.units.length ucp, .slice (some ⟨b, off, none⟩) C.acts.length acp, .slice kA C.clauses.length kcp, .int .i64 C.days, .slice oA C.off.length ocp] 27)) (.cells #[.int .i64 s.day, .slice shA s.holders.length shc, .slice suA s.used.length suc, .slice smA s.marks.length smc] 43); simp only [World.size_alloc] at h; exact h)
 have k1 : ∀ sB : Bl W0, sB.val.cell? ⟨w.heap.size + 1, 1, none⟩ = some (.slice shA s.holders.length shc) := fun sB => sB.cell ((cell_of_row W0 _ 1 _ _ _ hh1).trans rfl)
 clear hh1
 have HB : Hid (Below w.heap.size w W0) := by show Below _ _ _; rw [HW0.out]; exact Below.alloc' (Below.alloc' (Below.refl _ _) _) _
 rw [← HW0.out]
 change Code.wp _ _ _ _ (Bl.val (⟨W0, Below.refl _ _⟩ : Bl W0))
 generalize (⟨W0, Below.refl _ _⟩ : Bl W0) = s0
 have c1 : ∀ z : Bl W0, z.val.cell? ⟨b, off + i * 7 + 1, none⟩ = some (.int .i64 ro) := fun z => hcell z.val (Below.step HB.out z.prop) 1 (by omega)
 clear hcell
 have HA := Lib.hid ha; clear ha
 cases q : (ro == -1) with
 | true =>
  obtain rfl : E = -1 := by rw [← HE.out]; unfold doerOf; simp only [q]; rfl
  go_wp2
  go_ret
  exact ⟨rfl, Below.step HB.out (Bl.prop _)⟩
 | false =>
  obtain rfl : E = holderAt s.holders ro := by rw [← HE.out]; unfold doerOf; simp only [q]; rfl
  obtain ⟨r0, r1⟩ := HR.out (by simpa using q)
  simp only at r0 r1
  obtain ⟨hb2, hoff, hH, hlt, hhc⟩ := HS.out.holders.1.form (by omega) (by omega)
  simp only at hH
  subst hH
  have y0 : ∀ z : Bl W0, z.val.cell? ⟨hb2, hoff + ro.toNat, none⟩ = some (.int .i64 (holderAt s.holders ro)) := fun z => by
   rw [(bcell (Below.step HB.out z.prop)).1 _ _ hlt, hhc _ (by omega)]
   have hx : ro.toNat < s.holders.length := by omega
   simp [ints, holderAt, hx]
  clear hhc
  go_wp2
  go_quiet (fail)
  go_wp2
  go_ret
  exact ⟨rfl, (Below.step HB.out (Bl.prop _)).trans (below_drewN _ _ |>.mono (Below.step HB.out (Bl.prop _)).size)⟩
end Go.Proofs.YtaielhafpmjkaaaGreatDoor
