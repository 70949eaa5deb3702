/-
  Run; RangeL
-/
import Derived.Test.YtaielhafpmjkaaaGreatDoorQ36
namespace Go.Proofs.YtaielhafpmjkaaaGreatDoor
open Go.RowKit Go.Shelf
theorem frozen_of_row {w : World} {g : Nat} {cs : Array Value} {t : TypeId} (h : w.heap[g]? = some (.cells cs t (0, 0))) (i : Nat) : w.frozen? ⟨g, i, none⟩ = false := by simp [World.frozen?, h]
theorem row4_set {w W : World} {g : Nat} {y0 y1 y2 y3 x0 x1 x2 x3 : Value} {t : TypeId} (h : w.heap[g]? = some (.cells #[y0, y1, y2, y3] t (0, 0)))
 (hW : W = (((w.setCell ⟨g, 0, none⟩ x0).setCell ⟨g, 1, none⟩ x1).setCell ⟨g, 2, none⟩ x2).setCell ⟨g, 3, none⟩ x3) : W.heap[g]? = some (.cells #[x0, x1, x2, x3] t (0, 0)) := by
 subst hW
 have one : ∀ {w : World} {cs : Array Value} (i : Nat) (x : Value), w.heap[g]? = some (.cells cs t (0, 0)) → (w.setCell ⟨g, i, none⟩ x).heap[g]? = some (.cells (cs.setIfInBounds i x) t (0, 0)) := fun {w cs} i x h => by
  simp [World.setCell, Array.getElem?_modify, h]
 exact one 3 x3 (one 2 x2 (one 1 x1 (one 0 x0 h)))
set_option maxRecDepth 100000 in
set_option maxHeartbeats 2000000 in
theorem run_any (v : CV) (C : KCon) (lv : SV) (l : List Int) (w : World) (hC : ConAt w v C) (hV : At w 1 lv.A l.length lv.c (ints l)) : Calls Tryz.prog 24 #[v.val C, .slice lv.A l.length lv.c] w (RunPost C l w) := by
 obtain ⟨⟨vhA, vhc⟩, ⟨vuA, vuc⟩, ⟨vaA, vac⟩, ⟨vkA, vkc⟩, ⟨voA, voc⟩⟩ := v
 obtain ⟨lA, lc⟩ := lv
 have hlx : l.length ≤ 9223372036854775807 := by have h1 := hV.2.2.1; have h2 := hV.2.2.2; unfold maxLen at h2; omega
 have HC := Lib.hid hC; clear hC
 have HL := Lib.hid hV; clear hV
 simp only [CV.val, CV.cells]
 go_enter Tryz.func24, Tryz.ntmps24
 go_upto_region 1 with (fail)
 generalize hW0 : World.alloc _ _ = W0
 obtain ⟨HB, hh0⟩ := bx1 hW0
 clear hW0
 obtain ⟨k0_0, k0_1, k0_2, k0_3, k0_4, k0_5, k0_6⟩ := kc7 hh0
 clear hh0
 change Code.wp _ _ _ _ (Bl.val (⟨W0, Below.refl _ _⟩ : Bl W0))
 generalize (⟨W0, Below.refl _ _⟩ : Bl W0) = s0
 have HBG := Lib.hid (fun z : Bl W0 => begin_any (⟨⟨vhA, vhc⟩, ⟨vuA, vuc⟩, ⟨vaA, vac⟩, ⟨vkA, vkc⟩, ⟨voA, voc⟩⟩ : CV) C z.val (HC.out.below (Below.step HB.out z.prop)))
 simp only [CV.val, CV.cells] at HBG
 cases qv : C.valid with
 | false =>
  rw [qv] at HBG
  have HNG : Hid (¬ Good C l) := fun h => by rw [h.valid] at qv; cases qv
  have HBE : Hid (∀ z : Bl W0, Calls Tryz.prog 51 #[.agg #[.int .i64 C.parties, .slice vhA C.holders.length vhc, .slice vuA C.units.length vuc, .slice vaA C.acts.length vac, .slice vkA C.clauses.length vkc, .int .i64 C.days, .slice voA C.off.length voc]] z.val (fun e w' => e = .returned (.tuple #[.agg #[.int .i64 0, .slice none 0 0, .slice none 0 0, .slice none 0 0], .int .i64 1]) ∧ Below z.val.heap.size z.val w')) := fun z => (HBG.out z).mono (by
   rintro e w' ⟨hb, ⟨h0, _⟩ | ⟨_, he⟩⟩
   · cases h0
   · exact ⟨he, hb⟩)
  go_wp2_with (go_at_call 51; refine (HBE.out _).mono ?_; rintro e z1 ⟨rfl, hz⟩; obtain ⟨z1, rfl⟩ := Bl.on hz; clear hz)
  go_ret2
  exact ⟨none, 0, [], 1, rfl, Below.step HB.out (Below.alloc' (Bl.prop _) _), .inr ⟨by decide, HNG.out, rfl, rfl, rfl⟩⟩
 | true =>
  rw [qv] at HBG
  have HBE := Lib.hid (fun z : Bl W0 => (HBG.out z).mono (fun _ _ h => h.ret))
  generalize hfs : C.first = s1 at HBE
  have HFS := Lib.hid hfs; clear hfs
  go_wp2_with (go_at_call 51; refine (HBE.out _).mono ?_; rintro e z1 ⟨ahA, ahc, auA, auc, amA, amc, rfl, hst, hnt, hz⟩; refine Hid.out ?_)
  refine Lib.hid ?_
  obtain ⟨zb, HZB⟩ : ∃ zb : Bl W0, Hid (Below zb.val.heap.size zb.val z1 ∧ NewT zb.val.heap.size (⟨⟨ahA, ahc⟩, ⟨auA, auc⟩, ⟨amA, amc⟩⟩ : TV)) := ⟨_, hz, hnt⟩
  have HST := Lib.hid hst; clear hz hnt hst
  go_upto_region 2 with (fail)
  obtain ⟨Wg, HWg⟩ : ∃ Wg, Hid (Wg = z1.alloc (.cells #[.int .i64 s1.day, .slice ahA s1.holders.length ahc, .slice auA s1.used.length auc, .slice amA s1.marks.length amc] 43)) := ⟨_, rfl⟩
  rw [← HWg.out]
  have hbg : Below z1.heap.size z1 Wg := by rw [HWg.out]; exact Below.alloc' (Below.refl _ _) _
  have hxg : Wg.heap[z1.heap.size]? = some (.cells #[.int .i64 s1.day, .slice ahA s1.holders.length ahc, .slice auA s1.used.length auc, .slice amA s1.marks.length amc] 43 (0, 0)) := by rw [HWg.out]; exact heap_alloc_new z1 _
  obtain ⟨g, HG⟩ : ∃ g, Hid (g = z1.heap.size) := ⟨_, rfl⟩
  have HP1 : Hid (Below W0.heap.size W0 Wg) := Below.step (Below.step zb.prop HZB.out.1) hbg
  have HNT : Hid (NewT W0.heap.size (⟨⟨ahA, ahc⟩, ⟨auA, auc⟩, ⟨amA, amc⟩⟩ : TV)) := HZB.out.2.mono zb.prop.size
  have g0 : Wg.cell? ⟨z1.heap.size, 0, none⟩ = some (.int .i64 s1.day) := (cell_of_row Wg _ 0 _ _ _ hxg).trans rfl
  have g1 : Wg.cell? ⟨z1.heap.size, 1, none⟩ = some (.slice ahA s1.holders.length ahc) := (cell_of_row Wg _ 1 _ _ _ hxg).trans rfl
  have g2 : Wg.cell? ⟨z1.heap.size, 2, none⟩ = some (.slice auA s1.used.length auc) := (cell_of_row Wg _ 2 _ _ _ hxg).trans rfl
  have g3 : Wg.cell? ⟨z1.heap.size, 3, none⟩ = some (.slice amA s1.marks.length amc) := (cell_of_row Wg _ 3 _ _ _ hxg).trans rfl
  cases q4 : decide ((4000 : Int) < (l.length : Int)) with
  | true =>
   have HNG : Hid (¬ Good C l) := fun h => by have := h.len; rw [decide_eq_true_eq] at q4; omega
   go_wp2
   go_ret2
   exact ⟨none, 0, [], 3, rfl, Below.step HB.out HP1.out, .inr ⟨by decide, HNG.out, rfl, rfl, rfl⟩⟩
  | false =>
   have HL4 : Hid (l.length ≤ 4000) := by show l.length ≤ 4000; rw [decide_eq_false_iff_not] at q4; omega
   go_upto_region 7 with (fail)
   have HRW : Hid (StatesG g W0.heap.size (Wg.alloc (.cells #[.int .i64 s1.day, .slice ahA s1.holders.length ahc, .slice auA s1.used.length auc, .slice amA s1.marks.length amc] 43)) (.slice (some ⟨Wg.heap.size, 0, none⟩) [s1].length 1) [s1] ∧ SepG (Value.slice (some ⟨Wg.heap.size, 0, none⟩) [s1].length 1).ownBlock g (Wg.alloc (.cells #[.int .i64 s1.day, .slice ahA s1.holders.length ahc, .slice auA s1.used.length auc, .slice amA s1.marks.length amc] 43)) (⟨⟨ahA, ahc⟩, ⟨auA, auc⟩, ⟨amA, amc⟩⟩ : TV) s1) := by
    have hgl := lt_of_heap hxg
    have hsep : SepG (some Wg.heap.size) g (Wg.alloc (.cells #[.int .i64 s1.day, .slice ahA s1.holders.length ahc, .slice auA s1.used.length auc, .slice amA s1.marks.length amc] 43)) (⟨⟨ahA, ahc⟩, ⟨auA, auc⟩, ⟨amA, amc⟩⟩ : TV) s1 := fun w' hu =>
     HST.out.below ((hbg.trans ((Below.alloc' (Below.refl _ Wg) _).mono hbg.size)).trans (hu.below (by simp; omega) (fun k hk => by
      have h1 := HG.out
      have h2 := hbg.size
      rcases hk with hk | hk
      · injection hk with hk; omega
      · omega)))
    refine ⟨⟨fun k hk => ?_, [(⟨⟨ahA, ahc⟩, ⟨auA, auc⟩, ⟨amA, amc⟩⟩ : TV)], rfl, ⟨rfl, .inr ⟨Wg.heap.size, 1, _, rfl, HP1.out.size, heap_alloc_new Wg _, Nat.le_refl _, by decide, rfl, rfl⟩⟩, fun i s t hs ht => ?_⟩, hsep⟩
    · have h1 := HG.out
      injection hk with hk
      simp only at hk
      omega
    · cases i with
      | zero => simp at hs ht; subst hs ht; exact ⟨hsep, HNT.out⟩
      | succ i => simp at hs
   obtain ⟨Wr, HWr⟩ : ∃ Wr, Hid (Wr = Wg.alloc (.cells #[.int .i64 s1.day, .slice ahA s1.holders.length ahc, .slice auA s1.used.length auc, .slice amA s1.marks.length amc] 43)) := ⟨_, rfl⟩
   rw [← HWr.out] at HRW ⊢
   have hbr : Below Wg.heap.size Wg Wr := by rw [HWr.out]; exact Below.alloc' (Below.refl _ _) _
   have HXG : Hid (Wr.heap[g]? = some (.cells #[.int .i64 s1.day, .slice ahA s1.holders.length ahc, .slice auA s1.used.length auc, .slice amA s1.marks.length amc] 43 (0, 0))) := by show _ = _; rw [HG.out, hbr.block _ (lt_of_heap hxg)]; exact hxg
   have HPR : Hid (Below W0.heap.size W0 Wr) := Below.step HP1.out hbr
   have HGW : Hid (W0.heap.size ≤ g) := by show _ ≤ _; rw [HG.out]; exact (Below.step zb.prop HZB.out.1).size
   rw [← HG.out]
   clear hbr g0 g1 g2 g3 hxg hbg
   go_wp2
   go_loopg [26, 8] l.length (fun gk v26 v8 wr => ∃ (k : Nat) (R : List KState) (A8 : Option Addr) (c8 : Nat) (s : KState) (thA : Option Addr) (thc : Nat) (tuA : Option Addr) (tuc : Nat) (tmA : Option Addr) (tmc : Nat), gk = l.length - k ∧ k ≤ l.length ∧ v26 = .int .i64 k ∧ v8 = .slice A8 R.length c8 ∧ Hid (R = C.trail l k ∧ s = C.att (l.take k)) ∧ Hid (∀ (i : Nat) (x : Int), i < k → l[i]? = some x → C.stepErr (C.att (l.take i)) x = 0) ∧ Hid (StatesG g W0.heap.size wr (.slice A8 R.length c8) R) ∧ Hid (SepG (Value.slice A8 R.length c8).ownBlock g wr (⟨⟨thA, thc⟩, ⟨tuA, tuc⟩, ⟨tmA, tmc⟩⟩ : TV) s) ∧ Hid (wr.heap[g]? = some (.cells #[.int .i64 s.day, .slice thA s.holders.length thc, .slice tuA s.used.length tuc, .slice tmA s.marks.length tmc] 43 (0, 0))) ∧ Hid (Below W0.heap.size W0 wr))
   case atStart => exact ⟨0, [s1], _, _, s1, ahA, ahc, auA, auc, amA, amc, rfl, Nat.zero_le _, rfl, rfl, ⟨by rw [← HFS.out]; rfl, HFS.out.symm⟩, (fun i x h => by omega), HRW.out.1, HRW.out.2, HXG.out, HPR.out⟩
   case round =>
    obtain ⟨k, R, A8, c8, s, thA, thc, tuA, tuc, tmA, tmc, hgk, hk, rfl, rfl, HR, HLE, HN, HSP, HX, HW⟩ := hrel
    have HGK := Lib.hid hgk; clear hgk
    by_cases hlt : k < l.length
    · obtain ⟨x, hx⟩ : ∃ x, l[k]? = some x := ⟨_, List.getElem?_eq_getElem hlt⟩
      obtain ⟨lb, lo, hA, hlb, hlc⟩ := (HL.out.below (by omega) (Below.step HB.out HW.out)).1.form (by omega) (by omega)
      try simp only at hA
      subst hA
      have cl : wr.cell? ⟨lb, lo + k, none⟩ = some (.int .i64 x) := by rw [hlc k (by omega)]; simp only [ints, List.getElem?_map, hx, Option.map_some]
      have HXK := Lib.hid hx; clear hx hlc
      have k1 : (k : Int) < (l.length : Int) := by omega
      have y0 := kup HW.out k0_0
      have y1 := kup HW.out k0_1
      have y2 := kup HW.out k0_2
      have y3 := kup HW.out k0_3
      have y4 := kup HW.out k0_4
      have y5 := kup HW.out k0_5
      have y6 := kup HW.out k0_6
      have d0 : ∀ z : Bl wr, z.val.cell? ⟨g, 0, none⟩ = some (.int .i64 s.day) := fun z => z.cell ((cell_of_row wr _ 0 _ _ _ HX.out).trans rfl)
      have d1 : ∀ z : Bl wr, z.val.cell? ⟨g, 1, none⟩ = some (.slice thA s.holders.length thc) := fun z => z.cell ((cell_of_row wr _ 1 _ _ _ HX.out).trans rfl)
      have d2 : ∀ z : Bl wr, z.val.cell? ⟨g, 2, none⟩ = some (.slice tuA s.used.length tuc) := fun z => z.cell ((cell_of_row wr _ 2 _ _ _ HX.out).trans rfl)
      have d3 : ∀ z : Bl wr, z.val.cell? ⟨g, 3, none⟩ = some (.slice tmA s.marks.length tmc) := fun z => z.cell ((cell_of_row wr _ 3 _ _ _ HX.out).trans rfl)
      have HSTP := Lib.hid (fun z : Bl wr => step_any (⟨⟨vhA, vhc⟩, ⟨vuA, vuc⟩, ⟨vaA, vac⟩, ⟨vkA, vkc⟩, ⟨voA, voc⟩⟩ : CV) C (⟨⟨thA, thc⟩, ⟨tuA, tuc⟩, ⟨tmA, tmc⟩⟩ : TV) s x z.val (HC.out.below (Below.step HB.out (Below.step HW.out z.prop))) (HSP.out.at.below z.prop))
      simp only [CV.val, CV.cells, TV.val, TV.cells, KState.cells] at HSTP
      have HGL := Lib.hid (lt_of_heap HX.out)
      obtain ⟨za, hza⟩ : ∃ za : Bl wr, za.val = wr := ⟨⟨wr, Below.refl _ _⟩, rfl⟩
      rw [← hza] at cl ⊢
      clear hza
      by_cases he : C.stepErr s x = 0
      · have HE := Lib.hid he; clear he
        have HSTE := Lib.hid (fun z : Bl wr => by have h := HSTP.out z; rw [HE.out] at h; exact h.mono (fun _ _ h => h.ret))
        clear HSTP
        generalize hs' : C.next s x = s' at HSTE
        have HSN := Lib.hid hs'; clear hs'
        go_wp2_with (go_at_call 21; refine (HSTE.out _).mono ?_; rintro e z2 ⟨xhA, xhc, xuA, xuc, xmA, xmc, rfl, hst2, hnt2, hz2⟩; refine Hid.out ?_)
        refine Lib.hid ?_
        obtain ⟨zc, HZC⟩ : ∃ zc : Bl wr, Hid (Below zc.val.heap.size zc.val z2 ∧ NewT zc.val.heap.size (⟨⟨xhA, xhc⟩, ⟨xuA, xuc⟩, ⟨xmA, xmc⟩⟩ : TV) ∧ StateAt z2 (⟨⟨xhA, xhc⟩, ⟨xuA, xuc⟩, ⟨xmA, xmc⟩⟩ : TV) s') := ⟨_, hz2, hnt2, hst2⟩
        have hpz : Below wr.heap.size wr z2 := Below.step zc.prop HZC.out.1
        clear hz2 hnt2 hst2 cl
        have e0 := d0 ⟨z2, hpz⟩
        have f0 : z2.frozen? ⟨g, 0, none⟩ = false := frozen_of_row ((hpz.block g HGL.out).trans HX.out) 0
        have e1 := d1 ⟨z2, hpz⟩
        have f1 : z2.frozen? ⟨g, 1, none⟩ = false := frozen_of_row ((hpz.block g HGL.out).trans HX.out) 1
        have e2 := d2 ⟨z2, hpz⟩
        have f2 : z2.frozen? ⟨g, 2, none⟩ = false := frozen_of_row ((hpz.block g HGL.out).trans HX.out) 2
        have e3 := d3 ⟨z2, hpz⟩
        have f3 : z2.frozen? ⟨g, 3, none⟩ = false := frozen_of_row ((hpz.block g HGL.out).trans HX.out) 3
        simp only at e0 e1 e2 e3
        go_upto_region 11 with (fail)
        obtain ⟨Wb, HWb⟩ : ∃ Wb, Hid (Wb = (((z2.setCell ⟨g, 0, none⟩ (.int .i64 s'.day)).setCell ⟨g, 1, none⟩ (.slice xhA s'.holders.length xhc)).setCell ⟨g, 2, none⟩ (.slice xuA s'.used.length xuc)).setCell ⟨g, 3, none⟩ (.slice xmA s'.marks.length xmc)) := ⟨_, rfl⟩
        rw [← HWb.out]
        obtain ⟨b0, b1, b2, b3, hub⟩ := stored4 e0 e1 e2 e3 HWb.out
        have HXB : Hid (Wb.heap[g]? = some (.cells #[.int .i64 s'.day, .slice xhA s'.holders.length xhc, .slice xuA s'.used.length xuc, .slice xmA s'.marks.length xmc] 43 (0, 0))) := row4_set ((hpz.block g HGL.out).trans HX.out) HWb.out
        have HNB : Hid (StatesG g W0.heap.size Wb (.slice A8 R.length c8) R) := (HN.out.below hpz).upd hub
        have HSB : Hid (SepG (Value.slice A8 R.length c8).ownBlock g Wb (⟨⟨xhA, xhc⟩, ⟨xuA, xuc⟩, ⟨xmA, xmc⟩⟩ : TV) s') := (HN.out.sep (z := zc.val) (by have := zc.prop.size; have := HGL.out; omega) zc.prop.size HZC.out.2.2 HZC.out.2.1).upd hub
        have HNEW : Hid (NewT W0.heap.size (⟨⟨xhA, xhc⟩, ⟨xuA, xuc⟩, ⟨xmA, xmc⟩⟩ : TV)) := HZC.out.2.1.mono (by have := zc.prop.size; have := HW.out.size; omega)
        have HWB : Hid (Below W0.heap.size W0 Wb) := (Below.step HW.out hpz).trans (hub.below (by have := hpz.size; have := HW.out.size; omega) (fun k hk => by have := HGW.out; omega))
        have hbw := HWB.out.size
        have hgw : g < Wb.heap.size := lt_of_heap HXB.out
        have hrl2 : R.length ≤ 1000000 := by have h1 := HL4.out; rw [HR.out.1, trail_len]; omega
        clear e0 e1 e2 e3 f0 f1 f2 f3 hpz hub d0 d1 d2 d3
        go_wp2_with (at_builtin; refine wpList_append_stateG rfl _ _ rfl g W0.heap.size (.slice A8 R.length c8) R rfl HNB.out (⟨⟨xhA, xhc⟩, ⟨xuA, xuc⟩, ⟨xmA, xmc⟩⟩ : TV) s' HSB.out HNEW.out _ rfl rfl hrl2 hbw hgw ?_; intro A9 c9 w9 h1 h2 h3 h4; refine Hid.out ?_)
        refine Lib.hid ?_
        have HN9 := Lib.hid h1
        have HS9 := Lib.hid h2
        have HW9 : Hid (Below W0.heap.size W0 w9) := HWB.out.trans h3
        have HX9 : Hid (w9.heap[g]? = some (.cells #[.int .i64 s'.day, .slice xhA s'.holders.length xhc, .slice xuA s'.used.length xuc, .slice xmA s'.marks.length xmc] 43 (0, 0))) := h4.trans HXB.out
        have HR9 : Hid (R ++ [s'] = C.trail l (k + 1) ∧ s' = C.att (l.take (k + 1))) := by
         have h5 : s' = C.att (l.take (k + 1)) := by rw [att_succ HXK.out, ← HR.out.2]; exact HSN.out.symm
         exact ⟨by rw [trail_succ, ← HR.out.1, ← h5], h5⟩
        have HL9 : Hid (∀ (i : Nat) (x : Int), i < k + 1 → l[i]? = some x → C.stepErr (C.att (l.take i)) x = 0) := fun i x' hi hx' => by
         by_cases e : i = k
         · subst e
           rw [HXK.out] at hx'
           cases hx'
           rw [← HR.out.2]
           exact HE.out
         · exact HLE.out i x' (by omega) hx'
        clear h1 h2 h3 h4 b0 b1 b2 b3
        go_wp2
        go_roundg (l.length - (k + 1))
        case measure => rw [HGK.out]; omega
        case rel => exact ⟨k + 1, R ++ [s'], A9, c9, s', xhA, xhc, xuA, xuc, xmA, xmc, rfl, by omega, by go_num, by simp, HR9, HL9, HN9, HS9, HX9, HW9⟩
      · have HNG : Hid (¬ Good C l) := fun h => he (by rw [HR.out.2]; exact h.legal k x HXK.out)
        generalize hee : C.stepErr s x = er at HSTP he
        have HSTE : Hid (∀ z : Bl wr, Calls Tryz.prog 21 #[.agg #[.int .i64 C.parties, .slice vhA C.holders.length vhc, .slice vuA C.units.length vuc, .slice vaA C.acts.length vac, .slice vkA C.clauses.length vkc, .int .i64 C.days, .slice voA C.off.length voc], .agg #[.int .i64 s.day, .slice thA s.holders.length thc, .slice tuA s.used.length tuc, .slice tmA s.marks.length tmc], .int .i64 x] z.val (fun e w' => e = .returned (.tuple #[.agg #[.int .i64 0, .slice none 0 0, .slice none 0 0, .slice none 0 0], .int .i64 er]) ∧ Below z.val.heap.size z.val w')) := fun z => (HSTP.out z).mono (by
         rintro e w' ⟨hb, ⟨h0, _⟩ | ⟨_, he⟩⟩
         · exact absurd h0 he
         · exact ⟨he, hb⟩)
        have hen : (er != 0) = true := by simpa using he
        have HEN := Lib.hid he
        clear HSTP hee
        go_wp2_with (go_at_call 21; refine (HSTE.out _).mono ?_; rintro e z2 ⟨rfl, hz2⟩; refine Hid.out ?_)
        refine Lib.hid ?_
        obtain ⟨zc, HZC⟩ : ∃ zc : Bl wr, Hid (Below zc.val.heap.size zc.val z2) := ⟨_, hz2⟩
        have hpz : Below wr.heap.size wr z2 := Below.step zc.prop HZC.out
        clear hz2 cl
        have e0 := d0 ⟨z2, hpz⟩
        have f0 : z2.frozen? ⟨g, 0, none⟩ = false := frozen_of_row ((hpz.block g HGL.out).trans HX.out) 0
        have e1 := d1 ⟨z2, hpz⟩
        have f1 : z2.frozen? ⟨g, 1, none⟩ = false := frozen_of_row ((hpz.block g HGL.out).trans HX.out) 1
        have e2 := d2 ⟨z2, hpz⟩
        have f2 : z2.frozen? ⟨g, 2, none⟩ = false := frozen_of_row ((hpz.block g HGL.out).trans HX.out) 2
        have e3 := d3 ⟨z2, hpz⟩
        have f3 : z2.frozen? ⟨g, 3, none⟩ = false := frozen_of_row ((hpz.block g HGL.out).trans HX.out) 3
        simp only at e0 e1 e2 e3
        go_upto_region 11 with (fail)
        obtain ⟨Wb, HWb⟩ : ∃ Wb, Hid (Wb = (((z2.setCell ⟨g, 0, none⟩ (.int .i64 0)).setCell ⟨g, 1, none⟩ (.slice none 0 0)).setCell ⟨g, 2, none⟩ (.slice none 0 0)).setCell ⟨g, 3, none⟩ (.slice none 0 0)) := ⟨_, rfl⟩
        rw [← HWb.out]
        obtain ⟨b0, b1, b2, b3, hub⟩ := stored4 e0 e1 e2 e3 HWb.out
        have HWB : Hid (Below W0.heap.size W0 Wb) := (Below.step HW.out hpz).trans (hub.below (by have := hpz.size; have := HW.out.size; omega) (fun k hk => by have := HGW.out; omega))
        clear e0 e1 e2 e3 f0 f1 f2 f3 hpz hub
        go_wp2
        go_ret2
        exact ⟨none, 0, [], er, rfl, Below.step HB.out HWB.out, .inr ⟨HEN.out, HNG.out, rfl, rfl, rfl⟩⟩
    · obtain rfl : k = l.length := by omega
      obtain ⟨nA, nc, hv8, hN⟩ := HN.out.ret
      have HNN : Hid (StatesN W0.heap.size wr ⟨A8, c8⟩ R) := by
       injection hv8 with e1 _ e2
       rw [e1, e2]
       exact hN
      clear hv8 hN
      go_wp2
      go_ret2
      exact ⟨A8, c8, R, 0, rfl, Below.step HB.out HW.out, .inl ⟨rfl, ⟨qv, HL4.out, fun i x hx => HLE.out i x (List.getElem?_eq_some_iff.1 hx).1 hx⟩, HR.out.1, HNN.out.mono HB.out.size⟩⟩
end Go.Proofs.YtaielhafpmjkaaaGreatDoor
namespace Go.Proofs.YtaielhafpmjkaaaGreatDoor
open Go.RowKit
def Steps (T : TypeId) (B : Nat) (V V' : World) : Prop := Upd (fun k => B ≤ k ∧ ∃ cs fz, V.heap[k]? = some (.cells cs T fz)) V V'
def Turns (T : TypeId) (B : Nat) (V V' : World) : Prop := Upd (fun k => B ≤ k ∧ ∃ o : Obj, V.heap[k]? = some o ∧ (o.isCells = false ∨ ∃ cs fz, o = .cells cs T fz)) V V'
theorem Steps.turns {T : TypeId} {B B' : Nat} {V V' : World} (h : Steps T B V V') (hB : B' ≤ B) : Turns T B' V V' :=
 Upd.mono h (fun _ _ ⟨h1, cs, fz, h2⟩ => ⟨Nat.le_trans hB h1, _, h2, .inr ⟨cs, fz, rfl⟩⟩)
theorem Turns.putObj {T : TypeId} {B : Nat} {V : World} {l : Nat} {o : Obj} (o' : Obj) (hB : B ≤ l) (h : V.heap[l]? = some o) (hc : o.isCells = false) : Turns T B V (V.putObj l o') :=
 ⟨rfl, rfl, rfl, by simp [World.putObj], fun k _ hn => World.putObj_heap_other (fun e => hn (by subst e; exact ⟨hB, o, h, .inl hc⟩))⟩
theorem Turns.of_below {T : TypeId} {B : Nat} {V V' : World} (h : Below V.heap.size V V') : Turns T B V V' := ⟨h.os, h.tape, h.output, h.size, fun k hk _ => h.block k hk⟩
def SeqL {α : Type} (F : Fence) (n : Nat) (P : Program) (g : Nat) (lb : Array Value) (encs : α → Array Value) (T : TypeId) (Kp : World → World → Prop) (I : List α → World → Prop) (Ok OkL : List α → α → World → Prop) (S SL : List α → Prop) : Prop :=
 ∀ (l : Nat) (J JL : List α → World → Prop) (W : World), (∀ pre V, J pre V → I pre V) → (∀ pre V V', J pre V → Steps T W.heap.size V V' → J pre V') →
  (∀ pre x V, J pre V → Ok pre x V → YieldAt F (n - 1) P l (encs x) V fun e V' => e = .returned (.bool true) ∧ J (pre ++ [x]) V' ∧ Kp V V') →
  (∀ pre x V, J pre V → OkL pre x V → YieldAt F (n - 1) P l (encs x) V fun e V' => e = .returned (.bool false) ∧ JL (pre ++ [x]) V') → J [] W →
  CallsIn F n P g (#[.func (.yield l) #[] #[]] ++ lb) W fun e W' => (∃ v, e = .returned v) ∧ ((∃ xs, S xs ∧ J xs W') ∨ ∃ xs, SL xs ∧ JL xs W')
theorem wpIn_range_leave {F : Fence} {n : Nat} {P : Program} {α : Type} {g : Operand} {ps : Array Tmp} {assign body : Code} {Q : Exit → Act → World → Prop} {a : Act} {w : World}
 (hro : F.round = none) (h1 : 1 ≤ n) {gf : Nat} {lb : Array Value} (hg : a.eval g = .func (.func gf) #[] lb) (hFg : F.fn gf) (eg : ∀ args w, (callFunc gf args).run P w = .ok (.enter gf args) w)
 {encs : α → Array Value} {T : TypeId} {Kp : World → World → Prop} {I : List α → World → Prop} {Ok OkL : List α → α → World → Prop} {S SL : List α → Prop} (hseq : SeqL F (n - 1) P gf lb encs T Kp I Ok OkL S SL) (hps : ∀ x, (encs x).size = ps.size)
 (Ix : List α → World → Prop) (hI : ∀ pre V V', I pre V → Turns T w.heap.size V V' → I pre V') (hIx : ∀ pre V V', Ix pre V → Turns T w.heap.size V V' → Ix pre V')
 (hOk : ∀ pre x V l o o', Ok pre x V → V.heap[l]? = some o → o.isCells = false → Ok pre x (V.putObj l o')) (hOkL : ∀ pre x V l o o', OkL pre x V → V.heap[l]? = some o → o.isCells = false → OkL pre x (V.putObj l o'))
 (hKl : ∀ V Y l o o', V.heap[l]? = some o → o.isCells = false → w.heap.size ≤ l → Kp (V.putObj l o') Y → Kp V Y) (hKr : ∀ V Y l o o', Y.heap[l]? = some o → V.heap[l]? = some o → o.isCells = false → w.heap.size ≤ l → Kp V Y → Kp V (Y.putObj l o'))
 (bx : α → Obj) (hOkB : ∀ pre x V V', Ok pre x V → Below V.heap.size V V' → Ok pre x V') (hOkLB : ∀ pre x V V', OkL pre x V → Below V.heap.size V V' → OkL pre x V') (hKb : ∀ pre V V' Y, I pre V → Below V.heap.size V V' → Kp V' Y → Kp V Y)
 (h0 : I [] w) (a₁ : α → Nat → Act)
 (hassign : ∀ (l : Nat) (x : α) (W : World) (K : Act → World → Prop), K (a₁ x W.heap.size) (W.alloc (bx x)) → assign.wpIn (F.inRound l) (n - 1 - 1) P (Exit.then K (fun _ _ _ => False)) { tmps := (ps.zip (encs x)).foldl (fun t (p, v) => t.setIfInBounds p v) a.tmps, defers := [] } W)
 (hbody : ∀ (l : Nat) (pre : List α) (x : α) (W : World) (b : Nat), I pre W → Ok pre x W → w.heap.size ≤ b → W.heap[b]? = some (bx x) → body.wpIn (F.inRound l) (n - 1 - 1) P (fun e _ W' => e = .normal ∧ KeepsFrom w.heap.size W W' ∧ Kp W W' ∧ I (pre ++ [x]) W') (a₁ x b) W)
 (hleave : ∀ (l : Nat) (pre : List α) (x : α) (W : World) (b : Nat), I pre W → OkL pre x W → w.heap.size ≤ b → W.heap[b]? = some (bx x) → body.wpIn (F.inRound l) (n - 1 - 1) P (fun e _ W' => e = .ret ∧ KeepsFrom w.heap.size W W' ∧ Ix (pre ++ [x]) W') (a₁ x b) W)
 (hdone : ∀ (D : Nat) (xs : List α) (W : World), w.heap.size ≤ D → S xs → I xs W → W.heap[D]? = some (.deferred (some [])) → Q .normal { a with defers := { target := .collected D, args := #[] } :: a.defers } W)
 (hstop : ∀ (D : Nat) (xs : List α) (W : World), w.heap.size ≤ D → SL xs → Ix xs W → W.heap[D]? = some (.deferred (some [])) → Code.ret.wpIn F n P Q { a with defers := { target := .collected D, args := #[] } :: a.defers } W) :
 (Code.rangeFunc g ps assign body).wpIn F n P Q a w := by
 refine wpIn_rangeFunc fun fn hfn => ?_
 rw [hro]
 generalize hD : w.heap.size = D
 obtain ⟨rec, hrec⟩ : ∃ rec : LoopState → Option Code → Loop, rec = fun st pe => { state := st, pending := pe, fn, tmps := a.tmps, params := ps, assign, body, defers := D } := ⟨_, rfl⟩
 obtain ⟨W1, hW1⟩ : ∃ W1, (w.alloc (.deferred (some []))).alloc (.loop (rec .ready none)) = W1 := ⟨_, rfl⟩
 have hL1 : W1.heap[D + 1]? = some (.loop (rec .ready none)) := by
  have h := World.alloc_heap_new (w.alloc (.deferred (some []))) (.loop (rec .ready none))
  rw [World.size_alloc, hD, hW1] at h
  exact h
 have hK1 : W1.heap[D]? = some (.deferred (some [])) := by
  rw [← hW1, ← hD]
  exact (Below.heap_alloc _ _ _ (by simp)).trans (World.alloc_heap_new w _)
 have hsz : W1.heap.size = D + 2 := by rw [← hW1, ← hD]; simp
 have hI1 : I [] W1 := hI _ _ _ h0 (Turns.of_below (by rw [← hW1]; exact Below.alloc' (Below.alloc' (Below.refl _ _) _) _))
 rw [hD] at hI hIx hKl hKr hbody hleave hdone hstop
 refine ⟨D + 1, [{ target := .collected D, args := #[] }], W1, { target := .fn (.func gf) lb, args := #[.func (.yield (D + 1)) #[] #[]] }, W1, gf, #[.func (.yield (D + 1)) #[] #[]] ++ lb, W1, ?_, ?_, ?_, ?_, fun _ => h1, ?_⟩
 · have h := run_enterLoop_outer (P := P) (w := w) fn a.tmps ps assign body
   rw [hD] at h
   rw [h, ← hW1, hrec]
 · simp only [resolve, hg]
   simp [go_sem]
 · intro f' hf'
   simp [Target.leads] at hf'
   subst hf'
   exact hFg
 · simp [invoke, go_sem, eg]
 · have keep : ∀ {V V' : World} {k : Nat} {o : Obj}, Steps T W1.heap.size V V' → k < D + 2 → V.heap[k]? = some o → V'.heap[k]? = some o := fun {V V' k o} hs hk ho => by
    rw [hs.block k (lt_of_heap ho) (fun h => by have := h.1; omega)]
    exact ho
   refine (hseq (D + 1) (fun pre W => I pre W ∧ W.heap[D + 1]? = some (.loop (rec .ready none)) ∧ W.heap[D]? = some (.deferred (some [])))
    (fun pre W => Ix pre W ∧ W.heap[D + 1]? = some (.loop (rec .done (some .ret))) ∧ W.heap[D]? = some (.deferred (some []))) W1 (fun _ _ h => h.1) ?_ ?_ ?_ ⟨hI1, hL1, hK1⟩).mono ?_
   · rintro pre V V' ⟨hi, hl, hk⟩ hs
     exact ⟨hI _ _ _ hi (hs.turns (by omega)), keep hs (by omega) hl, keep hs (by omega) hk⟩
   · rintro pre x W0 ⟨hi0, hl0, hk0⟩ hok0
     have hy := run_yield (P := P) (args := encs x) hl0 (by rw [hrec]; exact hps x)
     rw [hrec] at hy
     refine ⟨fn, _, assign, body, hy, roundIn_of_wpIn hfn (hassign _ x W0 _ ?_)⟩
     have hbw : Below W0.heap.size W0 (W0.alloc (bx x)) := Below.alloc' (Below.refl _ _) _
     have hbx : (W0.alloc (bx x)).heap[W0.heap.size]? = some (bx x) := World.alloc_heap_new W0 _
     have hbD : D + 1 < W0.heap.size := lt_of_heap hl0
     have hl := (hbw.block _ (lt_of_heap hl0)).trans hl0
     have hk := (hbw.block _ (lt_of_heap hk0)).trans hk0
     have hi := hI _ _ _ hi0 (Turns.of_below hbw)
     have hok := hOkB _ _ _ _ hok0 hbw
     generalize hW : W0.alloc (bx x) = W at hbw hbx hl hk hi hok ⊢
     have hlt : D + 1 < W.heap.size := lt_of_heap hl
     refine ⟨_, run_beginRound hl (by rw [hrec]), ?_⟩
     generalize hB : W.putObj (D + 1) (.loop { rec .ready none with state := .busy }) = WB
     have hl2 : WB.heap[D + 1]? = some (.loop { rec .ready none with state := .busy }) := by rw [← hB]; exact World.putObj_heap_same hlt
     have hk2 : WB.heap[D]? = some (.deferred (some [])) := by rw [← hB]; exact (World.putObj_heap_other (by omega)).trans hk
     have hi2 : I pre WB := by rw [← hB]; exact hI _ _ _ hi (Turns.putObj _ (by omega) hl rfl)
     have ho2 : Ok pre x WB := by rw [← hB]; exact hOk _ _ _ _ _ _ hok hl rfl
     have hx2 : WB.heap[W0.heap.size]? = some (bx x) := by rw [← hB]; exact (World.putObj_heap_other (by omega)).trans hbx
     refine wpIn_mono (hbody _ pre x WB _ hi2 ho2 (by omega) hx2) ?_
     rintro e a3 W3 ⟨rfl, hk3, hkp, hi3⟩
     have hl3 := hk3.same _ _ (by omega) hl2 rfl
     have hk4 := hk3.same _ _ (Nat.le_refl _) hk2 rfl
     have hr3 := run_endRound (P := P) none hl3
     refine ⟨_, _, hr3, rfl, ⟨hI _ _ _ hi3 (Turns.putObj _ (by omega) hl3 rfl), ?_, (World.putObj_heap_other (by omega)).trans hk4⟩, ?_⟩
     · rw [World.putObj_heap_same (lt_of_heap hl3), hrec]
       rfl
     · refine hKb _ _ _ _ hi0 hbw ?_
       refine hKl W _ (D + 1) _ (.loop { rec .ready none with state := .busy }) hl rfl (by omega) ?_
       rw [hB]
       exact hKr _ _ _ _ _ hl3 hl2 rfl (by omega) hkp
   · rintro pre x W0 ⟨hi0, hl0, hk0⟩ hok0
     have hy := run_yield (P := P) (args := encs x) hl0 (by rw [hrec]; exact hps x)
     rw [hrec] at hy
     refine ⟨fn, _, assign, body, hy, roundIn_of_wpIn hfn (hassign _ x W0 _ ?_)⟩
     have hbw : Below W0.heap.size W0 (W0.alloc (bx x)) := Below.alloc' (Below.refl _ _) _
     have hbx : (W0.alloc (bx x)).heap[W0.heap.size]? = some (bx x) := World.alloc_heap_new W0 _
     have hbD : D + 1 < W0.heap.size := lt_of_heap hl0
     have hl := (hbw.block _ (lt_of_heap hl0)).trans hl0
     have hk := (hbw.block _ (lt_of_heap hk0)).trans hk0
     have hi := hI _ _ _ hi0 (Turns.of_below hbw)
     have hok := hOkLB _ _ _ _ hok0 hbw
     generalize hW : W0.alloc (bx x) = W at hbw hbx hl hk hi hok ⊢
     have hlt : D + 1 < W.heap.size := lt_of_heap hl
     refine ⟨_, run_beginRound hl (by rw [hrec]), ?_⟩
     generalize hB : W.putObj (D + 1) (.loop { rec .ready none with state := .busy }) = WB
     have hl2 : WB.heap[D + 1]? = some (.loop { rec .ready none with state := .busy }) := by rw [← hB]; exact World.putObj_heap_same hlt
     have hk2 : WB.heap[D]? = some (.deferred (some [])) := by rw [← hB]; exact (World.putObj_heap_other (by omega)).trans hk
     have hi2 : I pre WB := by rw [← hB]; exact hI _ _ _ hi (Turns.putObj _ (by omega) hl rfl)
     have ho2 : OkL pre x WB := by rw [← hB]; exact hOkL _ _ _ _ _ _ hok hl rfl
     have hx2 : WB.heap[W0.heap.size]? = some (bx x) := by rw [← hB]; exact (World.putObj_heap_other (by omega)).trans hbx
     refine wpIn_mono (hleave _ pre x WB _ hi2 ho2 (by omega) hx2) ?_
     rintro e a3 W3 ⟨rfl, hk3, hi3⟩
     have hl3 := hk3.same _ _ (by omega) hl2 rfl
     have hk4 := hk3.same _ _ (Nat.le_refl _) hk2 rfl
     have hr3 := run_endRound (P := P) (some .ret) hl3
     refine ⟨_, _, hr3, rfl, hIx _ _ _ hi3 (Turns.putObj _ (by omega) hl3 rfl), ?_, (World.putObj_heap_other (by omega)).trans hk4⟩
     rw [World.putObj_heap_same (lt_of_heap hl3), hrec]
     rfl
   · rintro e W2 ⟨⟨v, rfl⟩, (⟨xs, hS, hi, hl, hk⟩ | ⟨xs, hS, hi, hl, hk⟩)⟩
     · have he := run_endLoop (P := P) hl (by rw [hrec]; simp)
       exact ⟨none, _, by rw [hrec] at he; exact he, hdone _ xs _ (Nat.le_refl _) hS (hI _ _ _ hi (Turns.putObj _ (by omega) hl rfl)) ((World.putObj_heap_other (by omega)).trans hk)⟩
     · have he := run_endLoop (P := P) hl (by rw [hrec]; simp)
       exact ⟨some .ret, _, by rw [hrec] at he; exact he, hstop _ xs _ (Nat.le_refl _) hS (hIx _ _ _ hi (Turns.putObj _ (by omega) hl rfl)) ((World.putObj_heap_other (by omega)).trans hk)⟩
end Go.Proofs.YtaielhafpmjkaaaGreatDoor
