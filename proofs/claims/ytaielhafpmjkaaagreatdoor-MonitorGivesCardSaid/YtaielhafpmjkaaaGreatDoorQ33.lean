/-
  After; MSee
-/
import Derived.Test.YtaielhafpmjkaaaGreatDoorQ32
namespace Go.Proofs.YtaielhafpmjkaaaGreatDoor
open Go.RowKit Go.Shelf
set_option maxRecDepth 100000 in
set_option maxHeartbeats 1000000 in
theorem after_bad (v : CV) (C : KCon) (p x : Int) (sv : SV) (b : List KState) (w : World) (hC : ConAt w v C) (hX : ¬ C.stepOk x) : Calls Tryz.prog 43 #[v.val C, .agg #[.int .i64 p, .slice sv.A b.length sv.c], .int .i64 x] w (BelPost p (AfterOk C p x b) (AfterEr C p x b) w) := by
 obtain ⟨⟨vhA, vhc⟩, ⟨vuA, vuc⟩, ⟨vaA, vac⟩, ⟨vkA, vkc⟩, ⟨voA, voc⟩⟩ := v
 obtain ⟨bA, bc⟩ := sv
 have hax : C.acts.length ≤ 9223372036854775807 := by have h1 := hC.acts.2.2.1; have h2 := hC.acts.2.2.2; unfold maxLen at h2; omega
 have HC := Lib.hid hC; clear hC
 simp only [CV.val, CV.cells]
 go_enter Tryz.func43, Tryz.ntmps43
 go_upto_region 1 with (fail)
 generalize hW0 : World.alloc _ _ = W0
 obtain ⟨HB, hh0, hh1, hh2⟩ := bx3 hW0
 clear hW0
 obtain ⟨k0_0, k0_1, k0_2, k0_3, k0_4, k0_5, k0_6⟩ := kc7 hh0
 clear hh0
 obtain ⟨k1_0, k1_1⟩ := kc2 hh1
 clear hh1
 obtain ⟨k2_0, k2_1⟩ := kc2 hh2
 have f2_0 := fcell (i := 0) hh2
 have f2_1 := fcell (i := 1) hh2
 have hl2 := lt_of_heap hh2
 clear hh2
 change Code.wp _ _ _ _ (Bl.val (⟨W0, Below.refl _ _⟩ : Bl W0))
 generalize (⟨W0, Below.refl _ _⟩ : Bl W0) = s0
 have c0 := k2_0 s0
 have c1 := k2_1 s0
 have u0 := f2_0 s0
 have u1 := f2_1 s0
 have hp := s0.prop
 have hx3 := k0_3 s0
 generalize s0.val = Z at hp c0 c1 u0 u1 hx3 ⊢
 have HX := Lib.hid hX
 have q1 : (x == -1) = false := by rw [beq_eq_false_iff_ne]; exact fun e => hX (.inl e)
 have q1n : ¬ (x = -1) := fun e => hX (.inl e)
 clear hX
 focus
  cases q2 : decide (x < 0)
  focus
   have q3 : decide ((C.acts.length : Int) ≤ x) = true := by
    rw [decide_eq_true_eq]
    rw [decide_eq_false_iff_not] at q2
    have := HX.out
    rcases Decidable.em ((C.acts.length : Int) ≤ x) with h | h
    · exact h
    · exact absurd (.inr ⟨by omega, by omega⟩) this
  rotate_left
  all_goals
   go_wp2
   obtain ⟨Wf, HWf⟩ : ∃ Wf, Hid (Wf = (Z.setCell ⟨w.heap.size + 1 + 1, 0, none⟩ (.int .i64 0)).setCell ⟨w.heap.size + 1 + 1, 1, none⟩ (.slice none 0 0)) := ⟨_, rfl⟩
   rw [← HWf.out]
   obtain ⟨g0, g1, hUf⟩ := stored2 c0 c1 HWf.out
   refine bodyPost_ret (v := .tuple #[.agg #[.int .i64 0, .slice none 0 0], .int .i64 1]) (by simp [results, Tryz.results43, go_sem, g0, g1]) rfl ⟨0, none, 0, [], 1, rfl, ?_, .inr ⟨by decide, rfl, rfl, rfl, rfl, .inl ⟨rfl, HX.out⟩⟩⟩
   exact (HB.out.trans (hp.mono HB.out.size)).trans (hUf.below (by have := hp.size; omega) (fun k hk => by omega))
set_option maxRecDepth 100000 in
set_option maxHeartbeats 1000000 in
theorem after_tick (v : CV) (C : KCon) (p : Int) (sv : SV) (b : List KState) (w : World) (hC : ConAt w v C) (hS : StatesAt w sv b) (hO : ∀ s ∈ b, StateOk C s) (hT : Tab w) (hl : b.length ≤ 1000)  : Calls Tryz.prog 43 #[v.val C, .agg #[.int .i64 p, .slice sv.A b.length sv.c], .int .i64 (-1)] w (BelPost p (AfterOk C p (-1) b) (AfterEr C p (-1) b) w) := by
 obtain ⟨⟨vhA, vhc⟩, ⟨vuA, vuc⟩, ⟨vaA, vac⟩, ⟨vkA, vkc⟩, ⟨voA, voc⟩⟩ := v
 obtain ⟨bA, bc⟩ := sv
 have hax : C.acts.length ≤ 9223372036854775807 := by have h1 := hC.acts.2.2.1; have h2 := hC.acts.2.2.2; unfold maxLen at h2; omega
 have HC := Lib.hid hC; clear hC
 simp only [CV.val, CV.cells]
 go_enter Tryz.func43, Tryz.ntmps43
 go_upto_region 1 with (fail)
 generalize hW0 : World.alloc _ _ = W0
 obtain ⟨HB, hh0, hh1, hh2⟩ := bx3 hW0
 clear hW0
 obtain ⟨k0_0, k0_1, k0_2, k0_3, k0_4, k0_5, k0_6⟩ := kc7 hh0
 clear hh0
 obtain ⟨k1_0, k1_1⟩ := kc2 hh1
 clear hh1
 obtain ⟨k2_0, k2_1⟩ := kc2 hh2
 have f2_0 := fcell (i := 0) hh2
 have f2_1 := fcell (i := 1) hh2
 have hl2 := lt_of_heap hh2
 clear hh2
 have HS := Lib.hid hS; clear hS
 have HO := Lib.hid hO; clear hO
 have HT := Lib.hid hT; clear hT
 have HX : Hid (C.stepOk (-1)) := .inl rfl
 have a3 : W0.cell? ⟨w.heap.size, 3, none⟩ = some (.slice vaA C.acts.length vac) := k0_3 ⟨W0, Below.refl _ _⟩
 have b1 : W0.cell? ⟨w.heap.size + 1, 1, none⟩ = some (.slice bA b.length bc) := k1_1 ⟨W0, Below.refl _ _⟩
 go_wp2
 clear a3 b1
 go_loopg [32, 8] b.length (fun gk v32 v8 wr => ∃ (k : Nat) (R : List KState) (A8 : Option Addr) (c8 : Nat), gk = b.length - k ∧ k ≤ b.length ∧ v32 = .int .i64 k ∧ v8 = .slice A8 R.length c8 ∧ Hid (R = nextsTo C p (-1) b k) ∧ Hid (StatesOwn W0.heap.size wr (.slice A8 R.length c8) R) ∧ Hid (Below W0.heap.size W0 wr))
 case atStart => exact ⟨0, [], none, 0, rfl, Nat.zero_le _, rfl, rfl, rfl, StatesOwn.nil _ _, Below.refl _ _⟩
 case round =>
  obtain ⟨k, R, A8, c8, hgk, hk, rfl, rfl, HR, HN, HW⟩ := hrel
  have HGK := Lib.hid hgk; clear hgk
  by_cases hlt : k < b.length
  · obtain ⟨s, hs⟩ : ∃ s, b[k]? = some s := ⟨_, List.getElem?_eq_getElem hlt⟩
    have HSO := Lib.hid (HO.out s (List.mem_of_getElem? hs))
    have HNX := Lib.hid (nextsTo_succ (C := C) (p := p) (x := (-1)) hs)
    obtain ⟨lb, loff, hA, hlb, hst⟩ := (HS.out.below (Below.step HB.out HW.out)).form (by omega)
    simp only at hA
    subst hA
    obtain ⟨⟨⟨thA, thc⟩, ⟨tuA, tuc⟩, ⟨tmA, tmc⟩⟩, hstate, hcell⟩ := hst k s hs
    have hcl := hcell wr (Below.refl _ _)
    obtain ⟨c0, c1, c2, c3⟩ := rw4 hcl rfl
    have HST := Lib.hid hstate; clear hstate hst hcell hcl hs
    have k0 : (0 : Int) ≤ (k : Int) := by omega
    have k1 : (k : Int) < (b.length : Int) := by omega
    go_upto_region 7 with (fail)
    obtain ⟨Wa, HWa⟩ : ∃ Wa, Hid (Wa = wr.alloc (.cells #[.int .i64 s.day, .slice thA s.holders.length thc, .slice tuA s.used.length tuc, .slice tmA s.marks.length tmc] 43)) := ⟨_, rfl⟩
    rw [← HWa.out]
    have hba : Below wr.heap.size wr Wa := by rw [HWa.out]; exact Below.alloc' (Below.refl _ _) _
    have hax2 : Wa.heap[wr.heap.size]? = some (.cells #[.int .i64 s.day, .slice thA s.holders.length thc, .slice tuA s.used.length tuc, .slice tmA s.marks.length tmc] 43 (0, 0)) := by rw [HWa.out]; exact heap_alloc_new wr _
    have HPA : Hid (∀ z : Bl Wa, Below W0.heap.size W0 z.val) := fun z => Below.step (Below.step HW.out hba) z.prop
    obtain ⟨d0, d1, d2, d3⟩ := kc4 hax2
    have y0 := kup' HPA.out k0_0
    have y1 := kup' HPA.out k0_1
    have y2 := kup' HPA.out k0_2
    have y3 := kup' HPA.out k0_3
    have y4 := kup' HPA.out k0_4
    have y5 := kup' HPA.out k0_5
    have y6 := kup' HPA.out k0_6
    have yp := kup' HPA.out k1_0
    have HSA : Hid (∀ z : Bl Wa, StateAt z.val (⟨⟨thA, thc⟩, ⟨tuA, tuc⟩, ⟨tmA, tmc⟩⟩ : TV) s) := fun z => HST.out.below (Below.step hba z.prop)
    have HCA : Hid (∀ z : Bl Wa, ConAt z.val (⟨⟨vhA, vhc⟩, ⟨vuA, vuc⟩, ⟨vaA, vac⟩, ⟨vkA, vkc⟩, ⟨voA, voc⟩⟩ : CV) C) := fun z => HC.out.below (Below.step HB.out (HPA.out z))
    have HNA : Hid (∀ z : Bl Wa, StatesOwn W0.heap.size z.val (.slice A8 R.length c8) R) := fun z => HN.out.below (Below.step hba z.prop)
    have HWZ : Hid (wr.heap.size < Wa.heap.size) := lt_of_heap hax2
    clear c0 c1 c2 c3 hax2 hba
    obtain ⟨za, hza⟩ : ∃ za : Bl Wa, za.val = Wa := ⟨⟨Wa, Below.refl _ _⟩, rfl⟩
    rw [← hza]
    clear hza
    cases q4 : decide (C.days ≤ s.day) with
    | true =>
     have HE : Hid (R = nextsTo C p (-1) b (k + 1)) := by
      show _ = _
      rw [HNX.out, ← HR.out, fits, q4]
      simp
     go_wp2
     go_roundg (b.length - (k + 1))
     case measure => rw [HGK.out]; omega
     case rel => exact ⟨k + 1, R, A8, c8, rfl, by omega, by go_num, rfl, HE, HNA.out za, HPA.out za⟩
    | false =>
     have HE : Hid (nextsTo C p (-1) b (k + 1) = R ++ [C.next s (-1)]) := by
      show _ = _
      rw [HNX.out, ← HR.out, fits, q4]
      simp
     have hsf := step_fits HX.out HSO.out (by rw [decide_eq_false_iff_not] at q4; omega)
     have HSTP : Hid (∀ z : Bl Wa, Calls Tryz.prog 21 #[.agg #[.int .i64 C.parties, .slice vhA C.holders.length vhc, .slice vuA C.units.length vuc, .slice vaA C.acts.length vac, .slice vkA C.clauses.length vkc, .int .i64 C.days, .slice voA C.off.length voc], .agg #[.int .i64 s.day, .slice thA s.holders.length thc, .slice tuA s.used.length tuc, .slice tmA s.marks.length tmc], .int .i64 (-1)] z.val (StateRet (C.next s (-1)) z.val)) := fun z => by
      have h := step_any (⟨⟨vhA, vhc⟩, ⟨vuA, vuc⟩, ⟨vaA, vac⟩, ⟨vkA, vkc⟩, ⟨voA, voc⟩⟩ : CV) C (⟨⟨thA, thc⟩, ⟨tuA, tuc⟩, ⟨tmA, tmc⟩⟩ : TV) s (-1) z.val (HCA.out z) (HSA.out z)
      rw [hsf.1] at h
      exact h.mono (fun _ _ h => h.ret)
     clear hsf
     have HRL : Hid (R.length ≤ b.length) := by show R.length ≤ _; rw [HR.out]; exact nextsTo_len _ _ _ _ _
     generalize hs' : C.next s (-1) = s' at HE HSTP
     have HSN := Lib.hid hs'; clear hs'
     go_wp2_with (first | (go_at_call 21; refine (HSTP.out _).mono ?_; rintro e z2 ⟨xhA, xhc, xuA, xuc, xmA, xmc, rfl, hst2, hnt2, hz2⟩; refine Hid.out ?_))
     refine Lib.hid ?_
     obtain ⟨zb, HZB⟩ : ∃ zb : Bl Wa, Hid (Below zb.val.heap.size zb.val z2 ∧ NewT zb.val.heap.size ⟨⟨xhA, xhc⟩, ⟨xuA, xuc⟩, ⟨xmA, xmc⟩⟩) := ⟨_, hz2, hnt2⟩
     clear hz2 hnt2
     have HST2 := Lib.hid hst2; clear hst2
     go_upto_region 9 with (fail)
     obtain ⟨Wb, HWb⟩ : ∃ Wb, Hid (Wb = z2.alloc (.cells #[.int .i64 s'.day, .slice xhA s'.holders.length xhc, .slice xuA s'.used.length xuc, .slice xmA s'.marks.length xmc] 43)) := ⟨_, rfl⟩
     rw [← HWb.out]
     have hbb : Below z2.heap.size z2 Wb := by rw [HWb.out]; exact Below.alloc' (Below.refl _ _) _
     have hbx : Wb.heap[z2.heap.size]? = some (.cells #[.int .i64 s'.day, .slice xhA s'.holders.length xhc, .slice xuA s'.used.length xuc, .slice xmA s'.marks.length xmc] 43 (0, 0)) := by rw [HWb.out]; exact heap_alloc_new z2 _
     have e0 : Wb.cell? ⟨z2.heap.size, 0, none⟩ = some (.int .i64 s'.day) := (cell_of_row Wb _ 0 _ _ _ hbx).trans rfl
     have e1 : Wb.cell? ⟨z2.heap.size, 1, none⟩ = some (.slice xhA s'.holders.length xhc) := (cell_of_row Wb _ 1 _ _ _ hbx).trans rfl
     have e2 : Wb.cell? ⟨z2.heap.size, 2, none⟩ = some (.slice xuA s'.used.length xuc) := (cell_of_row Wb _ 2 _ _ _ hbx).trans rfl
     have e3 : Wb.cell? ⟨z2.heap.size, 3, none⟩ = some (.slice xmA s'.marks.length xmc) := (cell_of_row Wb _ 3 _ _ _ hbx).trans rfl
     have HZW : Hid (Below zb.val.heap.size zb.val Wb) := Below.step HZB.out.1 hbb
     have HWB : Hid (Below W0.heap.size W0 Wb) := Below.step (HPA.out zb) HZW.out
     have HOW : Hid (StatesOwn W0.heap.size Wb (.slice A8 R.length c8) R) := (HNA.out zb).below HZW.out
     have HSEP : Hid (Sep (Value.slice A8 R.length c8).ownBlock Wb ⟨⟨xhA, xhc⟩, ⟨xuA, xuc⟩, ⟨xmA, xmc⟩⟩ s') := (HNA.out zb).sep (Nat.le_refl _) (HST2.out.below hbb) HZB.out.2
     have HNEW : Hid (NewT W0.heap.size ⟨⟨xhA, xhc⟩, ⟨xuA, xuc⟩, ⟨xmA, xmc⟩⟩) := HZB.out.2.mono (HPA.out zb).size
     have hbw := HWB.out.size
     have hrl2 : R.length ≤ 1000000 := by have := HRL.out; omega
     clear hbx hbb
     go_wp2_with (at_builtin; refine wpList_append_state rfl _ _ rfl W0.heap.size (.slice A8 R.length c8) R rfl HOW.out ⟨⟨xhA, xhc⟩, ⟨xuA, xuc⟩, ⟨xmA, xmc⟩⟩ s' HSEP.out HNEW.out _ rfl rfl hrl2 hbw ?_; intro A9 c9 w9 h1 h2; refine Hid.out ?_)
     refine Lib.hid ?_
     have HN9 := Lib.hid h1
     have HW9 : Hid (Below W0.heap.size W0 w9) := HWB.out.trans h2
     have HE9 : Hid (R ++ [s'] = nextsTo C p (-1) b (k + 1)) := HE.out.symm
     clear h1 h2
     go_wp2
     go_roundg (b.length - (k + 1))
     case measure => rw [HGK.out]; omega
     case rel => exact ⟨k + 1, R ++ [s'], A9, c9, rfl, by omega, by go_num, by simp, HE9, HN9, HW9⟩
  · obtain rfl : k = b.length := by omega
    have HRE : Hid (R = C.nexts p (-1) b) := HR.out.trans (nextsTo_all C p (-1) b)
    have HROK : Hid (∀ s ∈ R, StateOk C s) := fun s hs => nextsTo_ok (p := p) (k := b.length) HX.out HO.out s (by rw [← HR.out]; exact hs)
    have hrl : R.length ≤ b.length := by rw [HR.out]; exact nextsTo_len _ _ _ _ _
    have HNN : Hid (StatesN W0.heap.size wr ⟨A8, c8⟩ R) := by
     obtain ⟨nA, nc, hv8, hN⟩ := HN.out.ret
     injection hv8 with e1 _ e2
     rw [e1, e2]
     exact hN
    clear HN
    have c0 := k2_0 ⟨wr, HW.out⟩
    have c1 := k2_1 ⟨wr, HW.out⟩
    have u0 := f2_0 ⟨wr, HW.out⟩
    have u1 := f2_1 ⟨wr, HW.out⟩
    have yp := k1_0 ⟨wr, HW.out⟩
    have y0 := k0_0 ⟨wr, HW.out⟩
    have y1 := k0_1 ⟨wr, HW.out⟩
    have y2 := k0_2 ⟨wr, HW.out⟩
    have y3 := k0_3 ⟨wr, HW.out⟩
    have y4 := k0_4 ⟨wr, HW.out⟩
    have y5 := k0_5 ⟨wr, HW.out⟩
    have y6 := k0_6 ⟨wr, HW.out⟩
    simp only at c0 c1 u0 u1 yp y0 y1 y2 y3 y4 y5 y6
    by_cases hr0 : R.length = 0
    · have HR0 : Hid (C.nexts p (-1) b = []) := HRE.out.symm.trans (List.eq_nil_of_length_eq_zero hr0)
      have hr0' : ((R.length : Int) == 0) = true := by rw [beq_iff_eq]; omega
      clear hr0
      go_wp2
      try rw [Exit.noGoto_ret]
      obtain ⟨Wf, HWf⟩ : ∃ Wf, Hid (Wf = (wr.setCell ⟨w.heap.size + 1 + 1, 0, none⟩ (.int .i64 0)).setCell ⟨w.heap.size + 1 + 1, 1, none⟩ (.slice none 0 0)) := ⟨_, rfl⟩
      rw [← HWf.out]
      obtain ⟨g0, g1, hUf⟩ := stored2 c0 c1 HWf.out
      refine bodyPost_ret (v := .tuple #[.agg #[.int .i64 0, .slice none 0 0], .int .i64 13]) (by simp [results, Tryz.results43, go_sem, g0, g1]) rfl ⟨0, none, 0, [], 13, rfl, ?_, .inr ⟨by decide, rfl, rfl, rfl, rfl, .inr ⟨HX.out, .inl ⟨rfl, HR0.out⟩⟩⟩⟩
      exact (HB.out.trans (HW.out.mono HB.out.size)).trans (hUf.below (by have := HW.out.size; have := HB.out.size; omega) (fun k hk => by omega))
    · have HRN : Hid (C.nexts p (-1) b ≠ []) := fun e => hr0 (by rw [HRE.out, e]; rfl)
      have hr0' : ((R.length : Int) == 0) = false := by rw [beq_eq_false_iff_ne]; omega
      have HCL : Hid (Calls Tryz.prog 56 #[.agg #[.int .i64 C.parties, .slice vhA C.holders.length vhc, .slice vuA C.units.length vuc, .slice vaA C.acts.length vac, .slice vkA C.clauses.length vkc, .int .i64 C.days, .slice voA C.off.length voc], .int .i64 p, .slice A8 R.length c8] wr (CloPost W0.heap.size C p R wr)) :=
       closure_any (⟨⟨vhA, vhc⟩, ⟨vuA, vuc⟩, ⟨vaA, vac⟩, ⟨vkA, vkc⟩, ⟨voA, voc⟩⟩ : CV) C p ⟨A8, c8⟩ R wr (HC.out.below (Below.step HB.out HW.out)) HNN.out HW.out.size HROK.out (HT.out.below (Below.step HB.out HW.out)) (by omega)
      clear hr0
      go_wp2_with (go_at_call 56; refine (HCL.out.mono (fun _ _ h => h.ret)).mono ?_; rintro e z1 ⟨r, A, c, er, rfl, hb1, hcase⟩; refine Hid.out ?_)
      refine Lib.hid ?_
      have hpz : Below W0.heap.size W0 z1 := Below.step HW.out hb1
      have lz : w.heap.size + 1 + 1 < wr.heap.size := by have := HW.out.size; omega
      have lp : w.heap.size + 1 < wr.heap.size := by omega
      have e0 := ((bcell hb1).1 _ 0 lz).trans c0
      have e1 := ((bcell hb1).1 _ 1 lz).trans c1
      have h0 := ((bcell hb1).2 _ 0 lz).trans u0
      have h1 := ((bcell hb1).2 _ 1 lz).trans u1
      have zp := ((bcell hb1).1 _ 0 lp).trans yp
      clear hb1 c0 c1 u0 u1 yp y0 y1 y2 y3 y4 y5 y6
      rcases hcase with ⟨rfl, hsn, hclo⟩ | ⟨rfl, rfl, rfl, rfl, hmany⟩
      · have HSNN := Lib.hid hsn; clear hsn
        have HCLO := Lib.hid hclo; clear hclo
        go_wp2
        try rw [Exit.noGoto_ret]
        obtain ⟨Wf, HWf⟩ : ∃ Wf, Hid (Wf = (z1.setCell ⟨w.heap.size + 1 + 1, 0, none⟩ (.int .i64 p)).setCell ⟨w.heap.size + 1 + 1, 1, none⟩ (.slice A r.length c)) := ⟨_, rfl⟩
        rw [← HWf.out]
        obtain ⟨g0, g1, hUf⟩ := stored2 e0 e1 HWf.out
        refine bodyPost_ret (v := .tuple #[.agg #[.int .i64 p, .slice A r.length c], .int .i64 0]) (by simp [results, Tryz.results43, go_sem, g0, g1]) rfl ⟨p, A, c, r, 0, rfl, ?_, .inl ⟨rfl, rfl, ?_, HX.out, HRN.out, ?_⟩⟩
        · exact (HB.out.trans (hpz.mono HB.out.size)).trans (hUf.below (by have := hpz.size; have := HB.out.size; omega) (fun k hk => by omega))
        · exact (HSNN.out.updLow hUf (fun k hk => by omega)).mono HB.out.size
        · rw [← HRE.out]; exact HCLO.out
      · have HMN := Lib.hid hmany; clear hmany
        go_wp2
        try rw [Exit.noGoto_ret]
        obtain ⟨Wf, HWf⟩ : ∃ Wf, Hid (Wf = (z1.setCell ⟨w.heap.size + 1 + 1, 0, none⟩ (.int .i64 0)).setCell ⟨w.heap.size + 1 + 1, 1, none⟩ (.slice none 0 0)) := ⟨_, rfl⟩
        rw [← HWf.out]
        obtain ⟨g0, g1, hUf⟩ := stored2 e0 e1 HWf.out
        refine bodyPost_ret (v := .tuple #[.agg #[.int .i64 0, .slice none 0 0], .int .i64 3]) (by simp [results, Tryz.results43, go_sem, g0, g1]) rfl ⟨0, none, 0, [], 3, rfl, ?_, .inr ⟨by decide, rfl, rfl, rfl, rfl, .inr ⟨HX.out, .inr ⟨rfl, ?_⟩⟩⟩⟩
        · exact (HB.out.trans (hpz.mono HB.out.size)).trans (hUf.below (by have := hpz.size; have := HB.out.size; omega) (fun k hk => by omega))
        · rw [← HRE.out]; exact HMN.out
set_option maxRecDepth 100000 in
set_option maxHeartbeats 1000000 in
theorem after_act (v : CV) (C : KCon) (p x : Int) (sv : SV) (b : List KState) (w : World) (hC : ConAt w v C) (hS : StatesAt w sv b) (hO : ∀ s ∈ b, StateOk C s) (hT : Tab w) (hl : b.length ≤ 1000) (hX : 0 ≤ x ∧ x < C.acts.length) : Calls Tryz.prog 43 #[v.val C, .agg #[.int .i64 p, .slice sv.A b.length sv.c], .int .i64 x] w (BelPost p (AfterOk C p x b) (AfterEr C p x b) w) := by
 obtain ⟨⟨vhA, vhc⟩, ⟨vuA, vuc⟩, ⟨vaA, vac⟩, ⟨vkA, vkc⟩, ⟨voA, voc⟩⟩ := v
 obtain ⟨bA, bc⟩ := sv
 have hax : C.acts.length ≤ 9223372036854775807 := by have h1 := hC.acts.2.2.1; have h2 := hC.acts.2.2.2; unfold maxLen at h2; omega
 have HC := Lib.hid hC; clear hC
 simp only [CV.val, CV.cells]
 go_enter Tryz.func43, Tryz.ntmps43
 go_upto_region 1 with (fail)
 generalize hW0 : World.alloc _ _ = W0
 obtain ⟨HB, hh0, hh1, hh2⟩ := bx3 hW0
 clear hW0
 obtain ⟨k0_0, k0_1, k0_2, k0_3, k0_4, k0_5, k0_6⟩ := kc7 hh0
 clear hh0
 obtain ⟨k1_0, k1_1⟩ := kc2 hh1
 clear hh1
 obtain ⟨k2_0, k2_1⟩ := kc2 hh2
 have f2_0 := fcell (i := 0) hh2
 have f2_1 := fcell (i := 1) hh2
 have hl2 := lt_of_heap hh2
 clear hh2
 have HS := Lib.hid hS; clear hS
 have HO := Lib.hid hO; clear hO
 have HT := Lib.hid hT; clear hT
 have HX : Hid (C.stepOk x) := .inr hX
 have q1 : (x == -1) = false := by rw [beq_eq_false_iff_ne]; omega
 have q1n : ¬ (x = -1) := by omega
 have q2 : decide (x < 0) = false := by rw [decide_eq_false_iff_not]; omega
 have q3 : decide ((C.acts.length : Int) ≤ x) = false := by rw [decide_eq_false_iff_not]; omega
 clear hX
 have a3 : W0.cell? ⟨w.heap.size, 3, none⟩ = some (.slice vaA C.acts.length vac) := k0_3 ⟨W0, Below.refl _ _⟩
 have b1 : W0.cell? ⟨w.heap.size + 1, 1, none⟩ = some (.slice bA b.length bc) := k1_1 ⟨W0, Below.refl _ _⟩
 go_wp2
 clear a3 b1
 go_loopg [32, 8] b.length (fun gk v32 v8 wr => ∃ (k : Nat) (R : List KState) (A8 : Option Addr) (c8 : Nat), gk = b.length - k ∧ k ≤ b.length ∧ v32 = .int .i64 k ∧ v8 = .slice A8 R.length c8 ∧ Hid (R = nextsTo C p x b k) ∧ Hid (StatesOwn W0.heap.size wr (.slice A8 R.length c8) R) ∧ Hid (Below W0.heap.size W0 wr))
 case atStart => exact ⟨0, [], none, 0, rfl, Nat.zero_le _, rfl, rfl, rfl, StatesOwn.nil _ _, Below.refl _ _⟩
 case round =>
  obtain ⟨k, R, A8, c8, hgk, hk, rfl, rfl, HR, HN, HW⟩ := hrel
  have HGK := Lib.hid hgk; clear hgk
  by_cases hlt : k < b.length
  · obtain ⟨s, hs⟩ : ∃ s, b[k]? = some s := ⟨_, List.getElem?_eq_getElem hlt⟩
    have HSO := Lib.hid (HO.out s (List.mem_of_getElem? hs))
    have HNX := Lib.hid (nextsTo_succ (C := C) (p := p) (x := x) hs)
    obtain ⟨lb, loff, hA, hlb, hst⟩ := (HS.out.below (Below.step HB.out HW.out)).form (by omega)
    simp only at hA
    subst hA
    obtain ⟨⟨⟨thA, thc⟩, ⟨tuA, tuc⟩, ⟨tmA, tmc⟩⟩, hstate, hcell⟩ := hst k s hs
    have hcl := hcell wr (Below.refl _ _)
    obtain ⟨c0, c1, c2, c3⟩ := rw4 hcl rfl
    have HST := Lib.hid hstate; clear hstate hst hcell hcl hs
    have k0 : (0 : Int) ≤ (k : Int) := by omega
    have k1 : (k : Int) < (b.length : Int) := by omega
    go_upto_region 7 with (fail)
    obtain ⟨Wa, HWa⟩ : ∃ Wa, Hid (Wa = wr.alloc (.cells #[.int .i64 s.day, .slice thA s.holders.length thc, .slice tuA s.used.length tuc, .slice tmA s.marks.length tmc] 43)) := ⟨_, rfl⟩
    rw [← HWa.out]
    have hba : Below wr.heap.size wr Wa := by rw [HWa.out]; exact Below.alloc' (Below.refl _ _) _
    have hax2 : Wa.heap[wr.heap.size]? = some (.cells #[.int .i64 s.day, .slice thA s.holders.length thc, .slice tuA s.used.length tuc, .slice tmA s.marks.length tmc] 43 (0, 0)) := by rw [HWa.out]; exact heap_alloc_new wr _
    have HPA : Hid (∀ z : Bl Wa, Below W0.heap.size W0 z.val) := fun z => Below.step (Below.step HW.out hba) z.prop
    obtain ⟨d0, d1, d2, d3⟩ := kc4 hax2
    have y0 := kup' HPA.out k0_0
    have y1 := kup' HPA.out k0_1
    have y2 := kup' HPA.out k0_2
    have y3 := kup' HPA.out k0_3
    have y4 := kup' HPA.out k0_4
    have y5 := kup' HPA.out k0_5
    have y6 := kup' HPA.out k0_6
    have yp := kup' HPA.out k1_0
    have HSA : Hid (∀ z : Bl Wa, StateAt z.val (⟨⟨thA, thc⟩, ⟨tuA, tuc⟩, ⟨tmA, tmc⟩⟩ : TV) s) := fun z => HST.out.below (Below.step hba z.prop)
    have HCA : Hid (∀ z : Bl Wa, ConAt z.val (⟨⟨vhA, vhc⟩, ⟨vuA, vuc⟩, ⟨vaA, vac⟩, ⟨vkA, vkc⟩, ⟨voA, voc⟩⟩ : CV) C) := fun z => HC.out.below (Below.step HB.out (HPA.out z))
    have HNA : Hid (∀ z : Bl Wa, StatesOwn W0.heap.size z.val (.slice A8 R.length c8) R) := fun z => HN.out.below (Below.step hba z.prop)
    have HWZ : Hid (wr.heap.size < Wa.heap.size) := lt_of_heap hax2
    clear c0 c1 c2 c3 hax2 hba
    obtain ⟨za, hza⟩ : ∃ za : Bl Wa, za.val = Wa := ⟨⟨Wa, Below.refl _ _⟩, rfl⟩
    rw [← hza]
    clear hza
    cases q4 : decide (C.days ≤ s.day) with
    | true =>
     have HE : Hid (R = nextsTo C p x b (k + 1)) := by
      show _ = _
      rw [HNX.out, ← HR.out, fits, q4]
      simp
     go_wp2
     go_roundg (b.length - (k + 1))
     case measure => rw [HGK.out]; omega
     case rel => exact ⟨k + 1, R, A8, c8, rfl, by omega, by go_num, rfl, HE, HNA.out za, HPA.out za⟩
    | false =>
     have HSEE : Hid (∀ z : Bl Wa, Calls Tryz.prog 22 #[.agg #[.int .i64 C.parties, .slice vhA C.holders.length vhc, .slice vuA C.units.length vuc, .slice vaA C.acts.length vac, .slice vkA C.clauses.length vkc, .int .i64 C.days, .slice voA C.off.length voc], .agg #[.int .i64 s.day, .slice thA s.holders.length thc, .slice tuA s.used.length tuc, .slice tmA s.marks.length tmc], .int .i64 p, .int .i64 x] z.val (RetB (.bool (C.sees s p x)) z.val)) := fun z => seesPub_any (⟨⟨vhA, vhc⟩, ⟨vuA, vuc⟩, ⟨vaA, vac⟩, ⟨vkA, vkc⟩, ⟨voA, voc⟩⟩ : CV) C (⟨⟨thA, thc⟩, ⟨tuA, tuc⟩, ⟨tmA, tmc⟩⟩ : TV) s p x z.val (HCA.out z) (HSA.out z)
     cases q5 : C.sees s p x with
     | false =>
      rw [q5] at HSEE
      have HE : Hid (R = nextsTo C p x b (k + 1)) := by
       show _ = _
       rw [HNX.out, ← HR.out, fits, q4, q1, q5]
       simp
      go_wp2_with (go_at_call 22; refine (HSEE.out _).mono ?_; rintro e z ⟨rfl, hz⟩; obtain ⟨z, rfl⟩ := Bl.on hz; clear hz)
      go_roundg (b.length - (k + 1))
      case measure => rw [HGK.out]; omega
      case rel => exact ⟨k + 1, R, A8, c8, rfl, by omega, by go_num, rfl, HE, HNA.out _, HPA.out _⟩
     | true =>
      rw [q5] at HSEE
      have HE : Hid (nextsTo C p x b (k + 1) = R ++ [C.next s x]) := by
       show _ = _
       rw [HNX.out, ← HR.out, fits, q4, q1, q5]
       simp
      have hsf := step_fits HX.out HSO.out (by rw [decide_eq_false_iff_not] at q4; omega)
      have HSTP : Hid (∀ z : Bl Wa, Calls Tryz.prog 21 #[.agg #[.int .i64 C.parties, .slice vhA C.holders.length vhc, .slice vuA C.units.length vuc, .slice vaA C.acts.length vac, .slice vkA C.clauses.length vkc, .int .i64 C.days, .slice voA C.off.length voc], .agg #[.int .i64 s.day, .slice thA s.holders.length thc, .slice tuA s.used.length tuc, .slice tmA s.marks.length tmc], .int .i64 x] z.val (StateRet (C.next s x) z.val)) := fun z => by
       have h := step_any (⟨⟨vhA, vhc⟩, ⟨vuA, vuc⟩, ⟨vaA, vac⟩, ⟨vkA, vkc⟩, ⟨voA, voc⟩⟩ : CV) C (⟨⟨thA, thc⟩, ⟨tuA, tuc⟩, ⟨tmA, tmc⟩⟩ : TV) s x z.val (HCA.out z) (HSA.out z)
       rw [hsf.1] at h
       exact h.mono (fun _ _ h => h.ret)
      clear hsf
      have HRL : Hid (R.length ≤ b.length) := by show R.length ≤ _; rw [HR.out]; exact nextsTo_len _ _ _ _ _
      generalize hs' : C.next s x = s' at HE HSTP
      have HSN := Lib.hid hs'; clear hs'
      go_wp2_with (first | (go_at_call 22; refine (HSEE.out _).mono ?_; rintro e z ⟨rfl, hz⟩; obtain ⟨z, rfl⟩ := Bl.on hz; clear hz) | (go_at_call 21; refine (HSTP.out _).mono ?_; rintro e z2 ⟨xhA, xhc, xuA, xuc, xmA, xmc, rfl, hst2, hnt2, hz2⟩; refine Hid.out ?_))
      refine Lib.hid ?_
      obtain ⟨zb, HZB⟩ : ∃ zb : Bl Wa, Hid (Below zb.val.heap.size zb.val z2 ∧ NewT zb.val.heap.size ⟨⟨xhA, xhc⟩, ⟨xuA, xuc⟩, ⟨xmA, xmc⟩⟩) := ⟨_, hz2, hnt2⟩
      clear hz2 hnt2
      have HST2 := Lib.hid hst2; clear hst2
      go_upto_region 9 with (fail)
      obtain ⟨Wb, HWb⟩ : ∃ Wb, Hid (Wb = z2.alloc (.cells #[.int .i64 s'.day, .slice xhA s'.holders.length xhc, .slice xuA s'.used.length xuc, .slice xmA s'.marks.length xmc] 43)) := ⟨_, rfl⟩
      rw [← HWb.out]
      have hbb : Below z2.heap.size z2 Wb := by rw [HWb.out]; exact Below.alloc' (Below.refl _ _) _
      have hbx : Wb.heap[z2.heap.size]? = some (.cells #[.int .i64 s'.day, .slice xhA s'.holders.length xhc, .slice xuA s'.used.length xuc, .slice xmA s'.marks.length xmc] 43 (0, 0)) := by rw [HWb.out]; exact heap_alloc_new z2 _
      have e0 : Wb.cell? ⟨z2.heap.size, 0, none⟩ = some (.int .i64 s'.day) := (cell_of_row Wb _ 0 _ _ _ hbx).trans rfl
      have e1 : Wb.cell? ⟨z2.heap.size, 1, none⟩ = some (.slice xhA s'.holders.length xhc) := (cell_of_row Wb _ 1 _ _ _ hbx).trans rfl
      have e2 : Wb.cell? ⟨z2.heap.size, 2, none⟩ = some (.slice xuA s'.used.length xuc) := (cell_of_row Wb _ 2 _ _ _ hbx).trans rfl
      have e3 : Wb.cell? ⟨z2.heap.size, 3, none⟩ = some (.slice xmA s'.marks.length xmc) := (cell_of_row Wb _ 3 _ _ _ hbx).trans rfl
      have HZW : Hid (Below zb.val.heap.size zb.val Wb) := Below.step HZB.out.1 hbb
      have HWB : Hid (Below W0.heap.size W0 Wb) := Below.step (HPA.out zb) HZW.out
      have HOW : Hid (StatesOwn W0.heap.size Wb (.slice A8 R.length c8) R) := (HNA.out zb).below HZW.out
      have HSEP : Hid (Sep (Value.slice A8 R.length c8).ownBlock Wb ⟨⟨xhA, xhc⟩, ⟨xuA, xuc⟩, ⟨xmA, xmc⟩⟩ s') := (HNA.out zb).sep (Nat.le_refl _) (HST2.out.below hbb) HZB.out.2
      have HNEW : Hid (NewT W0.heap.size ⟨⟨xhA, xhc⟩, ⟨xuA, xuc⟩, ⟨xmA, xmc⟩⟩) := HZB.out.2.mono (HPA.out zb).size
      have hbw := HWB.out.size
      have hrl2 : R.length ≤ 1000000 := by have := HRL.out; omega
      clear hbx hbb
      go_wp2_with (at_builtin; refine wpList_append_state rfl _ _ rfl W0.heap.size (.slice A8 R.length c8) R rfl HOW.out ⟨⟨xhA, xhc⟩, ⟨xuA, xuc⟩, ⟨xmA, xmc⟩⟩ s' HSEP.out HNEW.out _ rfl rfl hrl2 hbw ?_; intro A9 c9 w9 h1 h2; refine Hid.out ?_)
      refine Lib.hid ?_
      have HN9 := Lib.hid h1
      have HW9 : Hid (Below W0.heap.size W0 w9) := HWB.out.trans h2
      have HE9 : Hid (R ++ [s'] = nextsTo C p x b (k + 1)) := HE.out.symm
      clear h1 h2
      go_wp2
      go_roundg (b.length - (k + 1))
      case measure => rw [HGK.out]; omega
      case rel => exact ⟨k + 1, R ++ [s'], A9, c9, rfl, by omega, by go_num, by simp, HE9, HN9, HW9⟩
  · obtain rfl : k = b.length := by omega
    have HRE : Hid (R = C.nexts p x b) := HR.out.trans (nextsTo_all C p x b)
    have HROK : Hid (∀ s ∈ R, StateOk C s) := fun s hs => nextsTo_ok (p := p) (k := b.length) HX.out HO.out s (by rw [← HR.out]; exact hs)
    have hrl : R.length ≤ b.length := by rw [HR.out]; exact nextsTo_len _ _ _ _ _
    have HNN : Hid (StatesN W0.heap.size wr ⟨A8, c8⟩ R) := by
     obtain ⟨nA, nc, hv8, hN⟩ := HN.out.ret
     injection hv8 with e1 _ e2
     rw [e1, e2]
     exact hN
    clear HN
    have c0 := k2_0 ⟨wr, HW.out⟩
    have c1 := k2_1 ⟨wr, HW.out⟩
    have u0 := f2_0 ⟨wr, HW.out⟩
    have u1 := f2_1 ⟨wr, HW.out⟩
    have yp := k1_0 ⟨wr, HW.out⟩
    have y0 := k0_0 ⟨wr, HW.out⟩
    have y1 := k0_1 ⟨wr, HW.out⟩
    have y2 := k0_2 ⟨wr, HW.out⟩
    have y3 := k0_3 ⟨wr, HW.out⟩
    have y4 := k0_4 ⟨wr, HW.out⟩
    have y5 := k0_5 ⟨wr, HW.out⟩
    have y6 := k0_6 ⟨wr, HW.out⟩
    simp only at c0 c1 u0 u1 yp y0 y1 y2 y3 y4 y5 y6
    by_cases hr0 : R.length = 0
    · have HR0 : Hid (C.nexts p x b = []) := HRE.out.symm.trans (List.eq_nil_of_length_eq_zero hr0)
      have hr0' : ((R.length : Int) == 0) = true := by rw [beq_iff_eq]; omega
      clear hr0
      go_wp2
      try rw [Exit.noGoto_ret]
      obtain ⟨Wf, HWf⟩ : ∃ Wf, Hid (Wf = (wr.setCell ⟨w.heap.size + 1 + 1, 0, none⟩ (.int .i64 0)).setCell ⟨w.heap.size + 1 + 1, 1, none⟩ (.slice none 0 0)) := ⟨_, rfl⟩
      rw [← HWf.out]
      obtain ⟨g0, g1, hUf⟩ := stored2 c0 c1 HWf.out
      refine bodyPost_ret (v := .tuple #[.agg #[.int .i64 0, .slice none 0 0], .int .i64 13]) (by simp [results, Tryz.results43, go_sem, g0, g1]) rfl ⟨0, none, 0, [], 13, rfl, ?_, .inr ⟨by decide, rfl, rfl, rfl, rfl, .inr ⟨HX.out, .inl ⟨rfl, HR0.out⟩⟩⟩⟩
      exact (HB.out.trans (HW.out.mono HB.out.size)).trans (hUf.below (by have := HW.out.size; have := HB.out.size; omega) (fun k hk => by omega))
    · have HRN : Hid (C.nexts p x b ≠ []) := fun e => hr0 (by rw [HRE.out, e]; rfl)
      have hr0' : ((R.length : Int) == 0) = false := by rw [beq_eq_false_iff_ne]; omega
      have HCL : Hid (Calls Tryz.prog 56 #[.agg #[.int .i64 C.parties, .slice vhA C.holders.length vhc, .slice vuA C.units.length vuc, .slice vaA C.acts.length vac, .slice vkA C.clauses.length vkc, .int .i64 C.days, .slice voA C.off.length voc], .int .i64 p, .slice A8 R.length c8] wr (CloPost W0.heap.size C p R wr)) :=
       closure_any (⟨⟨vhA, vhc⟩, ⟨vuA, vuc⟩, ⟨vaA, vac⟩, ⟨vkA, vkc⟩, ⟨voA, voc⟩⟩ : CV) C p ⟨A8, c8⟩ R wr (HC.out.below (Below.step HB.out HW.out)) HNN.out HW.out.size HROK.out (HT.out.below (Below.step HB.out HW.out)) (by omega)
      clear hr0
      go_wp2_with (go_at_call 56; refine (HCL.out.mono (fun _ _ h => h.ret)).mono ?_; rintro e z1 ⟨r, A, c, er, rfl, hb1, hcase⟩; refine Hid.out ?_)
      refine Lib.hid ?_
      have hpz : Below W0.heap.size W0 z1 := Below.step HW.out hb1
      have lz : w.heap.size + 1 + 1 < wr.heap.size := by have := HW.out.size; omega
      have lp : w.heap.size + 1 < wr.heap.size := by omega
      have e0 := ((bcell hb1).1 _ 0 lz).trans c0
      have e1 := ((bcell hb1).1 _ 1 lz).trans c1
      have h0 := ((bcell hb1).2 _ 0 lz).trans u0
      have h1 := ((bcell hb1).2 _ 1 lz).trans u1
      have zp := ((bcell hb1).1 _ 0 lp).trans yp
      clear hb1 c0 c1 u0 u1 yp y0 y1 y2 y3 y4 y5 y6
      rcases hcase with ⟨rfl, hsn, hclo⟩ | ⟨rfl, rfl, rfl, rfl, hmany⟩
      · have HSNN := Lib.hid hsn; clear hsn
        have HCLO := Lib.hid hclo; clear hclo
        go_wp2
        try rw [Exit.noGoto_ret]
        obtain ⟨Wf, HWf⟩ : ∃ Wf, Hid (Wf = (z1.setCell ⟨w.heap.size + 1 + 1, 0, none⟩ (.int .i64 p)).setCell ⟨w.heap.size + 1 + 1, 1, none⟩ (.slice A r.length c)) := ⟨_, rfl⟩
        rw [← HWf.out]
        obtain ⟨g0, g1, hUf⟩ := stored2 e0 e1 HWf.out
        refine bodyPost_ret (v := .tuple #[.agg #[.int .i64 p, .slice A r.length c], .int .i64 0]) (by simp [results, Tryz.results43, go_sem, g0, g1]) rfl ⟨p, A, c, r, 0, rfl, ?_, .inl ⟨rfl, rfl, ?_, HX.out, HRN.out, ?_⟩⟩
        · exact (HB.out.trans (hpz.mono HB.out.size)).trans (hUf.below (by have := hpz.size; have := HB.out.size; omega) (fun k hk => by omega))
        · exact (HSNN.out.updLow hUf (fun k hk => by omega)).mono HB.out.size
        · rw [← HRE.out]; exact HCLO.out
      · have HMN := Lib.hid hmany; clear hmany
        go_wp2
        try rw [Exit.noGoto_ret]
        obtain ⟨Wf, HWf⟩ : ∃ Wf, Hid (Wf = (z1.setCell ⟨w.heap.size + 1 + 1, 0, none⟩ (.int .i64 0)).setCell ⟨w.heap.size + 1 + 1, 1, none⟩ (.slice none 0 0)) := ⟨_, rfl⟩
        rw [← HWf.out]
        obtain ⟨g0, g1, hUf⟩ := stored2 e0 e1 HWf.out
        refine bodyPost_ret (v := .tuple #[.agg #[.int .i64 0, .slice none 0 0], .int .i64 3]) (by simp [results, Tryz.results43, go_sem, g0, g1]) rfl ⟨0, none, 0, [], 3, rfl, ?_, .inr ⟨by decide, rfl, rfl, rfl, rfl, .inr ⟨HX.out, .inr ⟨rfl, ?_⟩⟩⟩⟩
        · exact (HB.out.trans (hpz.mono HB.out.size)).trans (hUf.below (by have := hpz.size; have := HB.out.size; omega) (fun k hk => by omega))
        · rw [← HRE.out]; exact HMN.out
theorem after_any (v : CV) (C : KCon) (p x : Int) (sv : SV) (b : List KState) (w : World) (hC : ConAt w v C) (hS : StatesAt w sv b) (hO : ∀ s ∈ b, StateOk C s) (hT : Tab w) (hl : b.length ≤ 1000) : Calls Tryz.prog 43 #[v.val C, .agg #[.int .i64 p, .slice sv.A b.length sv.c], .int .i64 x] w (BelPost p (AfterOk C p x b) (AfterEr C p x b) w) := by
 rcases Decidable.em (x = -1) with h1 | h1
 · subst h1; exact after_tick v C p sv b w hC hS hO hT hl
 · rcases Decidable.em (0 ≤ x ∧ x < C.acts.length) with h2 | h2
   · exact after_act v C p x sv b w hC hS hO hT hl h2
   · exact after_bad v C p x sv b w hC (fun h => h.elim h1 h2)
end Go.Proofs.YtaielhafpmjkaaaGreatDoor
namespace Go.Proofs.YtaielhafpmjkaaaGreatDoor
open Go.RowKit Go.Shelf
def SeeOk (C : KCon) (p x : Int) (b r : List KState) : Prop := C.okBelief ⟨p, b⟩ = true ∧ AfterOk C p x b r
def SeeEr (C : KCon) (p x : Int) (b : List KState) (er : Int) : Prop := (er = 1 ∧ C.okBelief ⟨p, b⟩ = false) ∨ (C.okBelief ⟨p, b⟩ = true ∧ AfterEr C p x b er)
theorem okBelief_ok {C : KCon} {p : Int} {b : List KState} (h : C.okBelief ⟨p, b⟩ = true) : (∀ s ∈ b, StateOk C s) ∧ 0 < b.length ∧ b.length ≤ 300 ∧ 0 ≤ p ∧ p < C.parties := by
 unfold KCon.okBelief bv1 allOk at h
 simp only [Bool.and_eq_true, Bool.not_eq_true', decide_eq_false_iff_not, beq_eq_false_iff_ne, List.all_eq_true, ne_eq] at h
 obtain ⟨⟨h1, h2, h3, h4⟩, h5⟩ := h
 exact ⟨fun s hs => (okState_iff C s).1 (h5 s hs), by omega, by omega, by omega, by omega⟩
set_option maxRecDepth 100000 in
set_option maxHeartbeats 1000000 in
theorem see_any (v : CV) (C : KCon) (p x : Int) (sv : SV) (b : List KState) (w : World) (hC : ConAt w v C) (hS : StatesAt w sv b) (hT : Tab w) : Calls Tryz.prog 17 #[v.val C, .agg #[.int .i64 p, .slice sv.A b.length sv.c], .int .i64 x] w (BelPost p (SeeOk C p x b) (SeeEr C p x b) w) := by
 obtain ⟨⟨vhA, vhc⟩, ⟨vuA, vuc⟩, ⟨vaA, vac⟩, ⟨vkA, vkc⟩, ⟨voA, voc⟩⟩ := v
 obtain ⟨bA, bc⟩ := sv
 have HC := Lib.hid hC; clear hC
 have HS := Lib.hid hS; clear hS
 have HT := Lib.hid hT; clear hT
 simp only [CV.val, CV.cells]
 go_enter Tryz.func17, Tryz.ntmps17
 go_upto_region 1 with (fail)
 generalize hW0 : World.alloc _ _ = W0
 obtain ⟨HB, hh0, hh1, hh2⟩ := bx3 hW0
 clear hW0
 obtain ⟨k0_0, k0_1, k0_2, k0_3, k0_4, k0_5, k0_6⟩ := kc7 hh0
 clear hh0
 obtain ⟨k1_0, k1_1⟩ := kc2 hh1
 clear hh1
 obtain ⟨k2_0, k2_1⟩ := kc2 hh2
 have f2_0 := fcell (i := 0) hh2
 have f2_1 := fcell (i := 1) hh2
 have hl2 := lt_of_heap hh2
 clear hh2
 change Code.wp _ _ _ _ (Bl.val (⟨W0, Below.refl _ _⟩ : Bl W0))
 generalize (⟨W0, Below.refl _ _⟩ : Bl W0) = s0
 have HV : Hid (∀ z : Bl W0, Calls Tryz.prog 35 #[.agg #[.int .i64 C.parties, .slice vhA C.holders.length vhc, .slice vuA C.units.length vuc, .slice vaA C.acts.length vac, .slice vkA C.clauses.length vkc, .int .i64 C.days, .slice voA C.off.length voc], .agg #[.int .i64 p, .slice bA b.length bc]] z.val (RetB (.bool (C.okBelief ⟨p, b⟩)) z.val)) := fun z => beliefValid_any (⟨⟨vhA, vhc⟩, ⟨vuA, vuc⟩, ⟨vaA, vac⟩, ⟨vkA, vkc⟩, ⟨voA, voc⟩⟩ : CV) C ⟨bA, bc⟩ ⟨p, b⟩ z.val (HC.out.below (Below.step HB.out z.prop)) (HS.out.below (Below.step HB.out z.prop))
 cases q1 : C.okBelief ⟨p, b⟩ with
 | false =>
  rw [q1] at HV
  go_wp2_with (go_at_call 35; refine (HV.out _).mono ?_; rintro e z ⟨rfl, hz⟩; obtain ⟨z, rfl⟩ := Bl.on hz; clear hz; refine Hid.out ?_)
  refine Lib.hid ?_
  have c0 := k2_0 z
  have c1 := k2_1 z
  have u0 := f2_0 z
  have u1 := f2_1 z
  have hp := z.prop
  generalize z.val = Z at hp c0 c1 u0 u1 ⊢
  go_wp2
  obtain ⟨Wf, HWf⟩ : ∃ Wf, Hid (Wf = (Z.setCell ⟨w.heap.size + 1 + 1, 0, none⟩ (.int .i64 0)).setCell ⟨w.heap.size + 1 + 1, 1, none⟩ (.slice none 0 0)) := ⟨_, rfl⟩
  rw [← HWf.out]
  obtain ⟨g0, g1, hUf⟩ := stored2 c0 c1 HWf.out
  refine bodyPost_ret (v := .tuple #[.agg #[.int .i64 0, .slice none 0 0], .int .i64 1]) (by simp [results, Tryz.results17, go_sem, g0, g1]) rfl ⟨0, none, 0, [], 1, rfl, ?_, .inr ⟨by decide, rfl, rfl, rfl, rfl, .inl ⟨rfl, q1⟩⟩⟩
  exact (HB.out.trans (hp.mono HB.out.size)).trans (hUf.below (by have := hp.size; omega) (fun k hk => by omega))
 | true =>
  rw [q1] at HV
  have HOK := Lib.hid (okBelief_ok q1)
  have HAF : Hid (∀ z : Bl W0, Calls Tryz.prog 43 #[.agg #[.int .i64 C.parties, .slice vhA C.holders.length vhc, .slice vuA C.units.length vuc, .slice vaA C.acts.length vac, .slice vkA C.clauses.length vkc, .int .i64 C.days, .slice voA C.off.length voc], .agg #[.int .i64 p, .slice bA b.length bc], .int .i64 x] z.val (BelPost p (AfterOk C p x b) (AfterEr C p x b) z.val)) := fun z => after_any (⟨⟨vhA, vhc⟩, ⟨vuA, vuc⟩, ⟨vaA, vac⟩, ⟨vkA, vkc⟩, ⟨voA, voc⟩⟩ : CV) C p x ⟨bA, bc⟩ b z.val (HC.out.below (Below.step HB.out z.prop)) (HS.out.below (Below.step HB.out z.prop)) HOK.out.1 (HT.out.below (Below.step HB.out z.prop)) (by have := HOK.out.2.2.1; omega)
  go_wp2_with (first | (go_at_call 35; refine (HV.out _).mono ?_; rintro e z ⟨rfl, hz⟩; obtain ⟨z, rfl⟩ := Bl.on hz; clear hz) | (go_at_call 43; refine (HAF.out _).mono ?_; rintro e z1 ⟨q, A, c, r, er, rfl, hb1, hcase⟩; refine Hid.out ?_))
  refine Lib.hid ?_
  obtain ⟨zb, HZB⟩ : ∃ zb : Bl W0, Hid (Below zb.val.heap.size zb.val z1 ∧ ((er = 0 ∧ q = p ∧ StatesN zb.val.heap.size z1 ⟨A, c⟩ r ∧ AfterOk C p x b r) ∨ (er ≠ 0 ∧ q = 0 ∧ A = none ∧ c = 0 ∧ r = [] ∧ AfterEr C p x b er))) := ⟨_, hb1, hcase⟩
  clear hb1 hcase
  have hpz : Below W0.heap.size W0 z1 := Below.step zb.prop HZB.out.1
  have c0 := k2_0 ⟨z1, hpz⟩
  have c1 := k2_1 ⟨z1, hpz⟩
  have u0 := f2_0 ⟨z1, hpz⟩
  have u1 := f2_1 ⟨z1, hpz⟩
  simp only at c0 c1 u0 u1
  go_wp2
  obtain ⟨Wf, HWf⟩ : ∃ Wf, Hid (Wf = (z1.setCell ⟨w.heap.size + 1 + 1, 0, none⟩ (.int .i64 q)).setCell ⟨w.heap.size + 1 + 1, 1, none⟩ (.slice A r.length c)) := ⟨_, rfl⟩
  rw [← HWf.out]
  obtain ⟨g0, g1, hUf⟩ := stored2 c0 c1 HWf.out
  refine bodyPost_ret (v := .tuple #[.agg #[.int .i64 q, .slice A r.length c], .int .i64 er]) (by simp [results, Tryz.results17, go_sem, g0, g1]) rfl ⟨q, A, c, r, er, rfl, ?_, ?_⟩
  · exact (HB.out.trans (hpz.mono HB.out.size)).trans (hUf.below (by have := hpz.size; have := HB.out.size; omega) (fun k hk => by omega))
  · have hsz := zb.prop.size
    rcases HZB.out.2 with ⟨e1, e2, e3, e4⟩ | ⟨e1, e2, e3, e4, e5, e6⟩
    · exact .inl ⟨e1, e2, (e3.updLow hUf (fun k hk => by omega)).mono (by have := HB.out.size; omega), q1, e4⟩
    · exact .inr ⟨e1, e2, e3, e4, e5, .inr ⟨q1, e6⟩⟩
end Go.Proofs.YtaielhafpmjkaaaGreatDoor
