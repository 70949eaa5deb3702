/-
  CtM
-/
import Derived.Test.YtahhdjeclbagnaaGreatDoorQ41
import Derived.Test.YtahhdjeclbagnaaGreatDoorQ30
namespace Go.Proofs.YtahhdjeclbagnaaGreatDoor
open Go.RowKit Go.Shelf
attribute [local go_sem] Oper.semAt_some
def ComplIs (C : KCon) (f : KFile) (u : Int) (L : List (List Int)) (er : Int) : Prop :=
 (er = 1 ∧ L = [] ∧ ¬ (okFile C f = true ∧ 0 ≤ u ∧ u ≤ C.days)) ∨
 (okFile C f = true ∧ 0 ≤ u ∧ u ≤ C.days ∧ ((er = 23 ∧ L = [] ∧ Evid f.facts f.orders) ∨
  ∃ T OO Y, Fine f.facts f.orders T OO ∧ IsChoices T OO u Y ∧ ((er = 3 ∧ L = [] ∧ 400 < Y.length) ∨ (er = 0 ∧ Y.length ≤ 400 ∧ L = onceM (Y.map (fun D => traceM T D u))))))
def ComplPost (C : KCon) (f : KFile) (u : Int) (w : World) (e : Ending) (w' : World) : Prop :=
 ∃ (L : List (List Int)) (er : Int) (A : Option Addr) (c : Nat), e = .returned (.tuple #[.slice A L.length c, .int .i64 er]) ∧ NumsAt w' ⟨A, c⟩ L ∧ Below w.heap.size w w' ∧ ComplIs C f u L er
theorem stored2 {Z Wf : World} {t t' : TypeId} {a c : Nat} {x y u v : Value} (h1 : Own Z t a [x]) (h2 : Own Z t' c [y]) (hne : ¬ (a = c)) (hW : Wf = (Z.setCell ⟨a, 0, none⟩ u).setCell ⟨c, 0, none⟩ v) : Own Wf t a [u] ∧ Own Wf t' c [v] ∧ Upd (fun k => k = a ∨ k = c) Z Wf := by
 subst hW
 have u1 : Upd (fun k => k = a) Z (Z.setCell ⟨a, 0, none⟩ u) := (Upd.refl (fun k => k = a) Z).setCell (p := ⟨a, 0, none⟩) (.inl rfl) _
 have u2 : Upd (fun k => k = c) (Z.setCell ⟨a, 0, none⟩ u) ((Z.setCell ⟨a, 0, none⟩ u).setCell ⟨c, 0, none⟩ v) := (Upd.refl (fun k => k = c) _).setCell (p := ⟨c, 0, none⟩) (.inl rfl) _
 exact ⟨(h1.set (i := 0) (by simp) u).keep u2 hne, (h2.keep u1 (fun e => hne e.symm)).set (i := 0) (by simp) v, (u1.mono (fun _ _ e => .inl e)).trans u2 (fun _ _ e => .inr e)⟩
theorem okFile_len {C : KCon} {f : KFile} (h : okFile C f = true) : f.facts.length ≤ 4000 ∧ f.orders.length ≤ 4000 := by
 simp only [okFile, Bool.and_eq_true, Bool.not_eq_true', Bool.or_eq_false_iff, decide_eq_false_iff_not] at h
 have := h.2.2.1
 omega
theorem okFact_all {C : KCon} {x : KFact} (h : okFactK C x = true) : 1 ≤ x.ref ∧ x.ref ≤ 1000000 ∧ 0 ≤ x.act ∧ x.act < (C.acts.length : Int) ∧ 0 ≤ x.low ∧ x.low ≤ x.high ∧ x.high < C.days := by
 simp only [okFactK, okFactB, Bool.and_eq_true, decide_eq_true_eq] at h
 exact ⟨h.1, h.2.1, h.2.2.1, h.2.2.2.1, h.2.2.2.2.1, h.2.2.2.2.2.1, h.2.2.2.2.2.2.1⟩
theorem in64_of {i : Int} (h0 : -9223372036854775808 ≤ i) (h1 : i ≤ 9223372036854775807) : In64 i := by
 have e0 : IntKind.i64.min = -9223372036854775808 := by decide
 have e1 : IntKind.i64.max = 9223372036854775807 := by decide
 simp only [In64, Lit.wf, Bool.and_eq_true, decide_eq_true_eq, e0, e1]
 exact ⟨h0, h1⟩
theorem stored3Y {z Wf : World} {t : TypeId} {rs : Nat} {x0 x1 x2 a b c : Value} (h : Own z t rs [x0, x1, x2]) (hW : Wf = ((z.setCell ⟨rs, 0, none⟩ a).setCell ⟨rs, 1, none⟩ b).setCell ⟨rs, 2, none⟩ c) : Own Wf t rs [a, b, c] ∧ Upd (fun k => k = rs) z Wf := by
 subst hW
 refine ⟨((h.set (i := 0) (by simp) a).set (i := 1) (by simp) b).set (i := 2) (by simp) c, ?_⟩
 exact (((Upd.refl (fun k => k = rs) _).setCell (.inl rfl) _).setCell (.inl rfl) _).setCell (.inl rfl) _
theorem okFile_days {C : KCon} {f : KFile} (h : okFile C f = true) : C.days ≤ 2000 ∧ C.acts.length ≤ 60 := by
 simp only [okFile, Bool.and_eq_true] at h
 have h := h.1
 simp only [KCon.valid, KCon.over, Bool.and_eq_true, Bool.not_eq_true', Bool.or_eq_false_iff, decide_eq_false_iff_not] at h
 omega
theorem tight_range {F T : List KFact} {OO : List KBef} {u : Int} (h : Tight F T OO) (hp : ∀ x ∈ F, 0 ≤ x.low) (h0 : 0 ≤ u) (h1 : u ≤ 2000) : ∀ i, i < T.length → -1000000 ≤ loU T u i ∧ hiU T u i ≤ 1000000 := fun i hi => by
 have e : T[i]? = some T[i] := List.getElem?_eq_getElem hi
 unfold loU hiU
 rw [getD_map e, getD_map e]
 obtain ⟨x, hx, hr⟩ := h.had (List.getElem_mem hi)
 have h2 := h.leL x hx _ (List.getElem_mem hi) (rst_ref hr)
 have h3 := hp x hx
 omega
theorem numsNil (w : World) : NumsAt w ⟨none, 0⟩ [] := ⟨[], rfl, at_nilX _ _, fun i l t h => by simp at h⟩
set_option maxRecDepth 100000 in
set_option maxHeartbeats 4000000 in
theorem completions_any (v : CV) (C : KCon) (fv : FV) (f : KFile) (u : Int) (w : World) (hC : ConAt w v C) (hF : FileAt w fv f) (hn : f.facts.length ≤ 400) (hT : Tab w) :
 Calls Tryz.prog 16 #[v.val C, fv.val f, .int .i64 u] w (ComplPost C f u w) := by
 obtain ⟨⟨vhA, vhc⟩, ⟨vuA, vuc⟩, ⟨vaA, vac⟩, ⟨vkA, vkc⟩, ⟨voA, voc⟩⟩ := v
 obtain ⟨⟨fA, fc⟩, ⟨oA, oc⟩⟩ := fv
 obtain ⟨ho, F, O⟩ := f
 simp only at hn
 have HC := Lib.hid hC; clear hC
 have HF := Lib.hid hF; clear hF
 have HT := Lib.hid hT; clear hT
 simp only [CV.val, CV.cells, FV.val, FV.cells]
 refine (callsIn_wide (n := 6)).1 ?_
 refine callsIn_of_wp_marks Tryz.func16 rfl trivial ?_ rfl
 simp only [Tryz.ntmps16, List.size_toArray, List.length_cons, List.length_nil, Nat.reduceAdd, Nat.reduceSub, Array.replicate_succ, Array.replicate_zero, List.push_toArray, List.append_toArray, List.nil_append, List.cons_append]
 gi_upto_region 1 with (fail)
 generalize hW0 : World.alloc _ _ = W0
 obtain ⟨HB, hh0, hh1, hh2, hh3, hh4⟩ := bx5 hW0; clear hW0
 have O0 : Own W0 27 w.heap.size _ := ⟨[], by rw [List.append_nil]; exact hh0⟩
 have O1 : Own W0 34 (w.heap.size + 1) [.int .i64 ho, .slice fA F.length fc, .slice oA O.length oc] := ⟨[], by rw [List.append_nil]; exact hh1⟩
 have O2 : Own W0 3 (w.heap.size + 2) [.int .i64 u] := ⟨[], by rw [List.append_nil]; exact hh2⟩
 have O3 : Own W0 42 (w.heap.size + 3) [.slice none 0 0] := ⟨[], by rw [List.append_nil]; exact hh3⟩
 have O4 : Own W0 35 (w.heap.size + 4) [.int .i64 0] := ⟨[], by rw [List.append_nil]; exact hh4⟩
 clear hh0 hh1 hh2 hh3 hh4
 generalize hb4 : w.heap.size + 1 + 1 + 1 + 1 = b4 at O4 ⊢
 generalize hb3 : w.heap.size + 1 + 1 + 1 = b3 at O3 ⊢
 generalize hb2 : w.heap.size + 1 + 1 = b2 at O2 ⊢
 generalize hb1 : w.heap.size + 1 = b1 at O1 ⊢
 generalize hb0 : w.heap.size = b0 at O0 ⊢
 have HNM : Hid (w.heap.size = b0 ∧ w.heap.size + 1 = b1 ∧ w.heap.size + 2 = b2 ∧ w.heap.size + 3 = b3 ∧ w.heap.size + 4 = b4) := ⟨hb0, hb1, hb2, hb3, hb4⟩
 clear hb0 hb1 hb2 hb3 hb4
 have n34 : ¬ (b3 = b4) := by have := HNM.out; omega
 have n43 : ¬ (b4 = b3) := by have := HNM.out; omega
 have O0H := Lib.hid O0
 have O1H := Lib.hid O1
 have O2H := Lib.hid O2
 have O3H := Lib.hid O3
 have O4H := Lib.hid O4
 have x0 := O0.cell (i := 0) rfl
 have x1 := O0.cell (i := 1) rfl
 have x2 := O0.cell (i := 2) rfl
 have x3 := O0.cell (i := 3) rfl
 have x4 := O0.cell (i := 4) rfl
 have x5 := O0.cell (i := 5) rfl
 have x6 := O0.cell (i := 6) rfl
 have y0 := O1.cell (i := 0) rfl
 have y1 := O1.cell (i := 1) rfl
 have y2 := O1.cell (i := 2) rfl
 clear O0 O1 O2 O3 O4
 have HFV := Lib.hid (fileValid_any ⟨⟨vhA, vhc⟩, ⟨vuA, vuc⟩, ⟨vaA, vac⟩, ⟨vkA, vkc⟩, ⟨voA, voc⟩⟩ C ⟨⟨fA, fc⟩, ⟨oA, oc⟩⟩ ⟨ho, F, O⟩ W0 (HC.out.below HB.out) (HF.out.below HB.out))
 by_cases hok : okFile C ⟨ho, F, O⟩ = true
 · rw [hok] at HFV
   have HOK := Lib.hid hok; clear hok
   by_cases hu0 : 0 ≤ u
   · by_cases hu1 : u ≤ C.days
     · have g1 : ¬ (u < 0) := by omega
       have g2 : ¬ (C.days < u) := by omega
       gi_wp2_with (refine ⟨trivial, ?_⟩; gi_at_call 12; refine (callsIn_wide.2 HFV.out).mono ?_; rintro e Z ⟨rfl, hz⟩; refine Hid.out ?_)
       refine Lib.hid ?_
       have HZ : Hid (Below w.heap.size w Z) := Below.step HB.out hz
       have P1 := Lib.hid (O1H.out.below hz)
       have P2 := Lib.hid (O2H.out.below hz)
       have P3 := Lib.hid (O3H.out.below hz)
       have P4 := Lib.hid (O4H.out.below hz)
       have z5 := (O0H.out.below hz).cell (i := 5) rfl
       have z2 := P2.out.cell (i := 0) rfl
       have z3 := P3.out.cell (i := 0) rfl
       have z4 := P4.out.cell (i := 0) rfl
       have f3 := P3.out.frozen 0
       have f4 := P4.out.frozen 0
       clear hz x0 x1 x2 x3 x4 x5 x6 y0 y1 y2
       gi_upto_region 3 with (fail)
       have HFA := Lib.hid (okFile_facts HOK.out)
       simp only at HFA
       have HKN : Hid (KnownL F O) := by
        have h := okFile_known (C := C) (fs := [⟨ho, F, O⟩]) (fun f hf => by rw [List.mem_singleton.1 hf]; exact HOK.out)
        rw [show factsOf [(⟨ho, F, O⟩ : KFile)] = F by simp [factsOf], show ordersOf [(⟨ho, F, O⟩ : KFile)] = O by simp [ordersOf]] at h
        exact h
       have HR : Hid (∀ x ∈ F, In64 x.ref) := fun x hx => by
        have h := okFact_all (okFactsL_ge HFA.out x hx).2
        exact in64_of (by omega) (by omega)
       have HOL : Hid (O.length ≤ 4000) := (okFile_len HOK.out).2
       have ha : Own (Z.alloc (.cells #[.int .i64 ho, .slice fA F.length fc, .slice oA O.length oc] 34)) 34 Z.heap.size (fileRow [(⟨ho, F, O⟩, ⟨⟨fA, fc⟩, ⟨oA, oc⟩⟩)]) := Own.new Z _ [.int .i64 ho, .slice fA F.length fc, .slice oA O.length oc]
       have hba : Below w.heap.size w (Z.alloc (.cells #[.int .i64 ho, .slice fA F.length fc, .slice oA O.length oc] 34)) := Below.step HZ.out (Below.alloc' (Below.refl _ _) _)
       have hfs := FilesAt.row (c := 1) ha (by simp) (by unfold maxLen; omega) (fun q hq => by rw [List.mem_singleton.1 hq]; exact HF.out.below hba)
       have hjo := joined_any [⟨ho, F, O⟩] ⟨some ⟨Z.heap.size, 0, none⟩, 1⟩ ⟨ho, F, O⟩ _ hfs rfl (by simp) (by simpa [factsOf] using HR.out) (by simp [factsOf]; omega) (by have := HOL.out; simpa [ordersOf] using this) (by simpa [factsOf, ordersOf] using HKN.out)
       rw [show factsOf [(⟨ho, F, O⟩ : KFile)] = F by simp [factsOf], show ordersOf [(⟨ho, F, O⟩ : KFile)] = O by simp [ordersOf]] at hjo
       have HJO : Hid (Calls Tryz.prog 27 #[.slice (some ⟨Z.heap.size, 0, none⟩) 1 1] (Z.alloc (.cells #[.int .i64 ho, .slice fA F.length fc, .slice oA O.length oc] 34)) (JoinPost ho F O (Z.alloc (.cells #[.int .i64 ho, .slice fA F.length fc, .slice oA O.length oc] 34)))) := hjo
       have z10 := P1.out.cell (i := 0) rfl
       have z11 := P1.out.cell (i := 1) rfl
       have z12 := P1.out.cell (i := 2) rfl
       have HBA := Lib.hid hba
       clear ha hfs hjo hba z5 z2 z3 z4 f3 f4
       gi_wp2_with (refine ⟨trivial, ?_⟩; gi_at_call 27; refine (callsIn_wide.2 HJO.out).mono ?_; rintro e Z2 ⟨ho', T, OO, er, tA, tc, qA, qc, rfl, hfa, ⟨hlt1, hlt2⟩, hb2, hj⟩; refine Hid.out ?_)
       refine Lib.hid ?_
       have hbz : Below Z.heap.size Z Z2 := (Below.alloc' (Below.refl _ _) _).trans (hb2.mono (by simp))
       have HB2 : Hid (Below w.heap.size w Z2) := Below.step HZ.out hbz
       have Q1 := P1.out.below hbz
       have Q2 := Lib.hid (P2.out.below hbz)
       have Q3 := Lib.hid (P3.out.below hbz)
       have Q4 := Lib.hid (P4.out.below hbz)
       have HTA := Lib.hid hfa
       have HJ := Lib.hid hj
       have k10 := Q1.cell (i := 0) rfl
       have k11 := Q1.cell (i := 1) rfl
       have k12 := Q1.cell (i := 2) rfl
       have f10 := Q1.frozen 0
       have f11 := Q1.frozen 1
       have f12 := Q1.frozen 2
       have HQ1 := Lib.hid Q1
       have HLO : Hid (∀ b off, tA = some ⟨b, off, none⟩ → b1 < b) := fun b off e => by have h1 := hlt1 b off e; have h2 := P1.out.lt; simp at h1; omega
       have HLQ : Hid (∀ b off, qA = some ⟨b, off, none⟩ → b1 < b) := fun b off e => by have h1 := hlt2 b off e; have h2 := P1.out.lt; simp at h1; omega
       clear hbz hb2 hfa hj hlt1 hlt2 P1 P2 P3 P4 HBA HJO z10 z11 z12 Q1
       gi_upto_region 4 with (fail)
       obtain ⟨Wf, HWf⟩ : ∃ Wf, Hid (Wf = ((Z2.setCell ⟨b1, 0, none⟩ (.int .i64 ho')).setCell ⟨b1, 1, none⟩ (.slice tA T.length tc)).setCell ⟨b1, 2, none⟩ (.slice qA OO.length qc)) := ⟨_, rfl⟩
       rw [← HWf.out]
       obtain ⟨R1, hu⟩ := stored3Y HQ1.out HWf.out
       have HRN : Hid (b1 ≠ b2 ∧ b1 ≠ b3 ∧ b1 ≠ b4 ∧ w.heap.size ≤ b1) := by have := HNM.out; exact ⟨by omega, by omega, by omega, by omega⟩
       have R2 := Lib.hid (Q2.out.keep hu (fun e => HRN.out.1 e.symm))
       have R3 := Lib.hid (Q3.out.keep hu (fun e => HRN.out.2.1 e.symm))
       have R4 := Lib.hid (Q4.out.keep hu (fun e => HRN.out.2.2.1 e.symm))
       have HBf : Hid (Below w.heap.size w Wf) := HB2.out.trans (hu.below HB2.out.size (fun k e => by have := HRN.out.2.2.2; omega))
       have HTF : Hid (FileAt Wf ⟨⟨tA, tc⟩, ⟨qA, qc⟩⟩ ⟨ho', T, OO⟩) := ⟨updAt HTA.out.facts (by omega) hu (fun b off e k => by have := HLO.out b off e; omega), updAt HTA.out.orders (by omega) hu (fun b off e k => by have := HLQ.out b off e; omega)⟩
       have R1H := Lib.hid R1
       clear hu R1
       rcases HJ.out with ⟨rfl, rfl, hfine⟩ | ⟨rfl, rfl, rfl, rfl, hev⟩
       · have HFI := Lib.hid hfine
         clear hfine HWf HQ1 HJ
         have hmm := @run_makeMap Tryz.prog
         gi_upto_region 9 with (fail)
         generalize hW9 : World.alloc (World.alloc (World.alloc (World.alloc Wf _) _) _) _ = W9
         have hm9 : MapX InT 9 encT W9 Wf.heap.size 0 (fun _ => none) := by
          refine (MapX.made (P := InT) (K := 9) (enc := encT) Wf).below (m := (Wf.alloc (.map #[] 0)).heap.size) (by simp) ?_
          rw [← hW9]
          exact Below.step (Below.step (Below.alloc' (Below.refl _ _) _) (Below.alloc' (Below.refl _ _) _)) (Below.alloc' (Below.refl _ _) _)
         have hs9 : W9.heap.size = Wf.heap.size + 1 + 1 + 1 + 1 := by rw [← hW9]; simp
         obtain ⟨HB9, _, m1, m2, m3⟩ := bx4 hW9
         have HM9 := Lib.hid hm9
         have HMB : Hid (Own W9 71 (Wf.heap.size + 1) [.map (some Wf.heap.size)]) := ⟨[], by rw [List.append_nil]; exact m1⟩
         have HRB : Hid (Own W9 42 (Wf.heap.size + 1 + 1) [.slice none 0 0]) := ⟨[], by rw [List.append_nil]; exact m2⟩
         have HNB : Hid (Own W9 3 (Wf.heap.size + 1 + 1 + 1) [.int .i64 0]) := ⟨[], by rw [List.append_nil]; exact m3⟩
         clear hW9 m1 m2 m3 hm9 hmm
         generalize hkn : Wf.heap.size + 1 + 1 + 1 = kn at HNB ⊢
         generalize hkr : Wf.heap.size + 1 + 1 = kr at HRB ⊢
         generalize hkm : Wf.heap.size + 1 = km at HMB ⊢
         have HKN2 : Hid (km = Wf.heap.size + 1 ∧ kr = Wf.heap.size + 2 ∧ kn = Wf.heap.size + 3) := ⟨hkm.symm, hkr.symm, hkn.symm⟩
         clear hkn hkr hkm
         have HFD := Lib.hid (okFactsL_distinct HFA.out)
         have HTT : Hid (Tight F T OO) := by
          have h := HFI.out.tight
          rw [joinedF_self HFD.out] at h
          exact h
         have HTLN : Hid (T.length = F.length) := tight_len HTT.out
         have HTA3 : Hid (∀ t ∈ T, ∃ x ∈ F, x.ref = t.ref ∧ x.act = t.act) := fun t ht => by
          obtain ⟨x, hx, e⟩ := HTT.out.had ht
          exact ⟨x, hx, rst_ref e, congrArg (fun z => z.2.1) e⟩
         have HTR : Hid (∀ t ∈ T, In64 t.ref) := fun t ht => by
          obtain ⟨x, hx, e, _⟩ := HTA3.out t ht
          rw [← e]
          exact HR.out x hx
         have hkF : Known F OO := by
          have h := HKN.out.known HFI.out.ord
          rw [joinedF_self HFD.out] at h
          exact h
         have HTK : Hid (Known T OO) := HTT.out.known hkF
         have HKF := Lib.hid hkF
         have HTD := Lib.hid (HTT.out.distinct HFD.out)
         have HOO : Hid (OO.length ≤ 4000) := Nat.le_trans (orders_len HFI.out.ord) HOL.out
         have hns := newSearch_any ⟨⟨tA, tc⟩, ⟨qA, qc⟩⟩ ho' T OO u W9 (HTF.out.below HB9.out) HTR.out HTD.out (by have := HTLN.out; omega) HOO.out HTK.out
         simp only [FV.val, FV.cells] at hns
         have HNS := Lib.hid hns
         have n10 := (R1H.out.below HB9.out).cell (i := 0) rfl
         have n11 := (R1H.out.below HB9.out).cell (i := 1) rfl
         have n12 := (R1H.out.below HB9.out).cell (i := 2) rfl
         have n20 := (R2.out.below HB9.out).cell (i := 0) rfl
         have HZ9 := Lib.hid hs9
         clear hns hkF hs9
         gi_wp2_with (refine ⟨trivial, ?_⟩; gi_at_call 32; refine (callsIn_wide.2 HNS.out).mono ?_; rintro e W10 ⟨X, rfl, hXB, hXr, hXn, hXLb, hXLa, hXs, hb10⟩; refine Hid.out ?_)
         refine Lib.hid ?_
         have HXS := Lib.hid hXs
         have HXB := Lib.hid hXB
         have HXR := Lib.hid hXr
         have HXN := Lib.hid hXn
         have HXP : Hid (X.Lb = befTo (pairsOf T OO) X.n (pairsOf T OO).length ∧ X.La = aftTo (pairsOf T OO) X.n (pairsOf T OO).length) := by
          have e : (pairsOf T OO).length = OO.length := by unfold pairsOf; rw [List.length_map]
          rw [e, hXn]
          exact ⟨hXLb, hXLa⟩
         have HB10 := Lib.hid hb10
         clear hXB hXr hXn hXLb hXLa hXs hb10 n10 n11 n12 n20
         gi_wp2_with (refine ⟨trivial, ?_⟩; gi_at_call 33; refine (callsIn_wide.2 (choicesM_any _ _)).mono ?_; rintro e z ⟨rfl, rfl⟩)
         generalize hW11 : World.alloc W10 _ = W11
         obtain ⟨hb11, hh11⟩ := bx1' hW11
         obtain ⟨Bs, hBs⟩ : ∃ Bs, Bs = W10.heap.size := ⟨_, rfl⟩
         rw [← hBs] at hh11 ⊢
         have HBS : Hid (Own W11 74 Bs [.pointer (some ⟨X.sb, 0, none⟩)]) := ⟨[], by rw [List.append_nil]; exact hh11⟩
         have HXS2 := Lib.hid (HXS.out.below hb11)
         have hs11 : W11.heap.size = Bs + 1 := by rw [← hW11, hBs]; simp
         have hxb : X.B ≤ Bs := by rw [hBs, HXB.out]; exact HB10.out.size
         have HB11 : Hid (Below W9.heap.size W9 W11) := Below.step HB10.out hb11
         have HST : Hid (∀ k, StX X Bs k → X.B ≤ k ∧ k < W11.heap.size) := fun k hk => by
          rcases hk with rfl | rfl | rfl | ⟨v, hv, hq⟩
          · exact ⟨HXR.out.1, HXS2.out.bef.own.lt⟩
          · exact ⟨HXR.out.2, HXS2.out.aft.own.lt⟩
          · omega
          · rcases hv with hv | hv
            · exact ⟨(HXS2.out.bef.low v hv k hq).1, (HXS2.out.bef.low v hv k hq).2.1⟩
            · exact ⟨(HXS2.out.aft.low v hv k hq).1, (HXS2.out.aft.low v hv k hq).2.1⟩
         have HSB : Hid (X.B ≤ W11.heap.size ∧ w.heap.size ≤ X.B ∧ X.B = Wf.heap.size + 4) := by
          have h1 := HBf.out.size
          have h2 := HXB.out
          have h3 := HZ9.out
          exact ⟨by omega, by omega, by omega⟩
         clear hW11 hb11 hh11 hBs hs11 hxb HXS HXB HXR HB10 HNS
         obtain ⟨K, HK⟩ : ∃ K : CB, Hid (K = ⟨b0, b1, b2, b3, b4, km, kr, kn, Wf.heap.size⟩) := ⟨_, rfl⟩
         have HC0 : Hid (∀ b, CAt W11 X.B b K ⟨⟨tA, tc⟩, ⟨qA, qc⟩⟩ ho' T OO u 0 []) := fun b => by
          have o1 := (R1H.out.below HB9.out).below HB11.out
          have o2 := (R2.out.below HB9.out).below HB11.out
          have o3 := (R3.out.below HB9.out).below HB11.out
          have o4 := (R4.out.below HB9.out).below HB11.out
          have l1 := R1H.out.lt
          have l2 := R2.out.lt
          have l3 := R3.out.lt
          have l4 := R4.out.lt
          rw [HK.out]
          refine ⟨o1, o2, o3, o4, HMB.out.below HB11.out, ⟨_, HRB.out.below HB11.out, ResAt.nil _ _⟩, HNB.out.below HB11.out, (HTF.out.facts.below (by omega) HB9.out).below (by omega) HB11.out, ?_, fun h0 k off e => ?_, ?_⟩
          · rw [setV_nil]
            exact HM9.out.below HM9.out.lt HB11.out
          · simp only at e ⊢
            obtain ⟨g, o, e2, hl, _⟩ := HTF.out.facts.fact h0
            simp only at e2
            rw [e] at e2
            simp only [Option.some.injEq, Addr.mk.injEq, and_true] at e2
            omega
          · have := HSB.out
            have := HKN2.out
            simp only
            omega
         have HBND : Hid (Bnd X.n (loU T u) (hiU T u) (pairsOf T OO)) := by
          show Bnd _ _ _ _
          rw [HXN.out]
          exact Bnd.of_tight HTT.out HFD.out HKF.out HFI.out.le u
         have HRG : Hid (∀ i, i < X.n → -1000000 ≤ loU T u i ∧ hiU T u i ≤ 1000000) := by
          have h1 := okFile_days HOK.out
          intro i hi'
          rw [HXN.out] at hi'
          exact tight_range HTT.out (fun x hx => by have := okFact_all (okFactsL_ge HFA.out x hx).2; omega) hu0 (by omega) i hi'
         have HXN4 : Hid (X.n ≤ 400 ∧ (pairsOf T OO).length ≤ 4000) := by
          have e : (pairsOf T OO).length = OO.length := by unfold pairsOf; rw [List.length_map]
          have h1 := HXN.out
          have h2 := HTLN.out
          have h3 := HOO.out
          exact ⟨by omega, by omega⟩
         have HBW : Hid (Below w.heap.size w W11) := Below.step (Below.step HBf.out HB9.out) HB11.out
         refine wpIn_range_gen (α := Nat × List Int) rfl (by omega) (gf := 51) rfl trivial (enters_of Tryz.func51 (by kernel_rfl) rfl)
          (encs := fun _ x => #[.slice (some ⟨x.1, 0, none⟩) X.n X.n]) (Mv := fun b => MvB X (W11.heap.size + 2, b)) (Kp := fun b => KpB X Bs (W11.heap.size + 2, b)) (Ok := COk X.n (W11.heap.size + 2)) (OkL := COkL X.n (W11.heap.size + 2))
          (S := fun xs => IsEnum X.n (loU T u) (hiU T u) (pairsOf T OO) (xs.map Prod.snd) ∧ xs.length ≤ 400) (SL := fun _ => ∃ Y, IsEnum X.n (loU T u) (hiU T u) (pairsOf T OO) Y ∧ 400 < Y.length)
          (I := fun b pre V => CAt V X.B b K ⟨⟨tA, tc⟩, ⟨qA, qc⟩⟩ ho' T OO u pre.length (onceM (pre.map (fun x => traceM T x.2 u))) ∧ Below w.heap.size w V ∧ X.B ≤ V.heap.size)
          (fun W1 hW1 hsz => by
           have h := choices_iter (P := pairsOf T OO) (lo := loU T u) (hi := hiU T u) (Bs := Bs) 5 (by omega) (fun b pre V => CAt V X.B b K ⟨⟨tA, tc⟩, ⟨qA, qc⟩⟩ ho' T OO u pre.length (onceM (pre.map (fun x => traceM T x.2 u))) ∧ Below w.heap.size w V ∧ X.B ≤ V.heap.size) W1 (HXS2.out.below hW1) (HBS.out.below hW1) HBND.out HRG.out HXP.out.1 HXP.out.2 HXN4.out.1 HXN4.out.2
           rw [hsz] at h
           exact h) (fun _ _ => rfl)
          (fun _ _ V => Own V 42 b3 [.slice none 0 0] ∧ Own V 35 b4 [.int .i64 3] ∧ Below w.heap.size w V ∧ X.B ≤ V.heap.size)
          (fun b pre V V' h ht => ⟨h.1.turn ht HSB.out.1 h.2.2, h.2.1.trans (Upd.below ht h.2.1.size (fun k hk => by have := hk.1; have := HSB.out; omega)), Nat.le_trans h.2.2 ht.size⟩)
          (fun b pre V V' h ht => ⟨h.1.turn ht, h.2.1.turn ht, h.2.2.1.trans (Upd.below ht h.2.2.1.size (fun k hk => by have := hk.1; have := HSB.out; omega)), Nat.le_trans h.2.2.2 ht.size⟩)
          (fun b pre x V V' h ht => ⟨h.1, h.2.1, h.2.2.1.turn ht, Nat.le_trans h.2.2.2.1 ht.size, h.2.2.2.2⟩) (fun b pre x V V' h ht => ⟨h.1, h.2.1, h.2.2.1.turn ht, Nat.le_trans h.2.2.2.1 ht.size, h.2.2.2.2⟩)
          (fun b V V1 Y1 Y hb ht hk ht2 => ⟨Nat.le_trans ht.size (Nat.le_trans hk.1 ht2.size), fun k cs t fz hc hs => ht2.cells (hk.2 k cs t fz (ht.cells hc) hs)⟩)
          (fun b V V' k o hb hm hk1 hk2 ho hc => hm.keep ho (fun hs => by
           rcases hs with hs | ⟨_, cs, t, fz, h1, _⟩
           · have := hs.1; simp only at this; omega
           · rw [ho] at h1; cases h1; cases hc))
          (fun b pre V V' hb h hm => by
           have h1 := hm.belowB (by have := HSB.out; omega) h.2.2
           exact ⟨h.1.mv hm (by have := HSB.out; omega) h.2.2, h.2.1.trans (h1.mono HSB.out.2.1), Nat.le_trans h.2.2 hm.size⟩)
          (fun b pre V V' hb h hm => by
           have h1 := hm.belowB (by have := HSB.out; omega) h.2.2.2
           have h2 := R3.out.lt
           have h3 := R4.out.lt
           have h4 := HSB.out
           exact ⟨h.1.belowB (by omega) h1, h.2.1.belowB (by omega) h1, h.2.2.1.trans (h1.mono HSB.out.2.1), Nat.le_trans h.2.2.2 hm.size⟩)
          (fun _ => []) (fun b V hV hb => ⟨(HC0.out b).below HSB.out.1 hV, Below.step HBW.out hV, Nat.le_trans HSB.out.1 hV.size⟩) ?a1 ?assign ?body ?leave ?done ?stop
         case assign =>
          intro l b x W k Kx hk hKx
          gi_wp2
          exact hKx
         case body =>
          as_aux_lemma =>
           rintro l b pre ⟨xb, ds⟩ W k hb ⟨hC, hBw, hXW⟩ ⟨hp, hdl, hdo, hbs, hd0, hd1⟩ hk hbx
           simp only at hdl hdo hd0 hd1 hp
           clear hk hbx
           obtain ⟨L, hL⟩ : ∃ L, onceM (pre.map (fun x => traceM T x.2 u)) = L := ⟨_, rfl⟩
           rw [hL] at hC
           obtain ⟨tr, htrd⟩ : ∃ tr, traceM T ds u = tr := ⟨_, rfl⟩
           have HL : Hid (onceM (pre.map (fun x => traceM T x.2 u) ++ [traceM T ds u]) = onceStep L tr) := by show _ = _; rw [onceM_snoc, hL, htrd]
           have HLL : Hid (L.length ≤ 400) := by show _ ≤ _; have := onceM_len (pre.map (fun x => traceM T x.2 u)); rw [hL, List.length_map] at this; omega
           clear hL
           have HC := Lib.hid hC
           rw [HK.out] at hC
           have hord := hC.ord
           simp only at hord
           have HO := Lib.hid hord
           have hsb := HSB.out
           have kb : kn < b ∧ kr < b ∧ Wf.heap.size < b := by omega
           have KB := Lib.hid kb
           have c0 := hC.nbox.cell (i := 0) rfl
           have f0 := hC.nbox.frozen 0
           simp only at c0 f0
           have HBWb := Lib.hid hBw
           have HXWb := Lib.hid hXW
           have HDO := Lib.hid hdo
           have HDL := Lib.hid hdl
           have HDX : Hid (W11.heap.size + 2 ≤ xb ∧ xb < b ∧ b ≤ W.heap.size) := ⟨hd0, hd1, hbs⟩
           have HCk := Lib.hid hC
           have hpl : pre.length < 400 := hp
           clear hC hord hsb kb hBw hXW hdo hdl hd0 hd1 hbs hp
           gi_upto_region 12 with (fail)
           generalize hW1 : World.setCell _ _ _ = W1
           have u1 : Upd (fun k => k = kn) W W1 := by rw [← hW1]; exact (Upd.refl (fun k => k = kn) W).setCell (p := ⟨kn, 0, none⟩) (.inl rfl) _
           have o1 : Own W1 3 kn [.int .i64 ((pre.length : Int) + 1)] := by rw [← hW1]; exact HCk.out.nbox.set (i := 0) (by simp) _
           clear hW1 c0 f0
           have n0 := o1.cell (i := 0) rfl
           have lw := HO.out
           have y1 := (HCk.out.fbox.keep u1 (by simp only; omega)).cell (i := 1) rfl
           have y2 := (HCk.out.ubox.keep u1 (by simp only; omega)).cell (i := 0) rfl
           simp only at y1 y2
           have g1 : ¬ (400 < (pre.length : Int) + 1) := by omega
           have htc := trace_any tA tc (some ⟨xb, 0, none⟩) X.n T ds u W1 (updAt0 HCk.out.facts (by omega) u1 (fun h0 k off e => by have := HCk.out.fl h0 k off e; simp only at this; omega))
            ((HDO.out.keep u1 (by have := HDX.out; have := HSB.out; omega)).toAt (by rw [ints_len]; omega) (ints_one ds) (by have := HDL.out; omega) (by have := HXN4.out.1; unfold maxLen; omega)) HTR.out (by have := HTLN.out; omega)
           rw [HDL.out, htrd] at htc
           have HTC := Lib.hid htc
           have HU1 := Lib.hid u1
           have HO1 := Lib.hid o1
           clear htc u1 o1 lw
           gi_wp2_with (refine ⟨trivial, ?_⟩; gi_at_call 18; refine (CallsIn.inRound l (callsIn_wide.2 HTC.out)).mono ?_; rintro e W2 ⟨A2, c2, rfl, h1, h2⟩; refine Hid.out ?_)
           refine Lib.hid ?_
           have HT2 := Lib.hid h1
           have HB2 := Lib.hid h2
           have hac : ∀ a ∈ tr, -9223372036854775808 ≤ a ∧ a ≤ 9223372036854775807 := fun a ha => by
            rw [← htrd] at ha
            rcases trace_acts ha with rfl | ⟨y, hy, rfl⟩
            · omega
            · obtain ⟨z, hz, _, e⟩ := HTA3.out y hy
              have h5 := okFact_all (okFactsL_ge HFA.out z hz).2
              have h6 := (okFile_days HOK.out).2
              omega
           have hlen : tr.length ≤ 4000 := by
            have h5 := trace_len (F := T) (D := ds) (u := u)
            rw [htrd] at h5
            have h6 := (okFile_days HOK.out).1
            have h7 := HTLN.out
            omega
           have HTX := Lib.hid (text_any tr A2 c2 W2 (rowAt_own h1 (ints_one tr)) hac (by omega) (HT.out.below ((HBWb.out.trans (HU1.out.below HBWb.out.size (fun k e => by have := HBf.out.size; have := HKN2.out; omega))).trans (h2.mono (by have := HBWb.out.size; have := HU1.out.size; omega)))))
           have HIN : Hid (InT tr) := by
            show InT tr
            have h5 := textM_len tr hac
            unfold InT maxLen
            omega
           have HLN := Lib.hid hlen
           clear h1 h2 hac hlen n0 y1 y2 g1 htrd HTC
           gi_wp2_with (refine ⟨trivial, ?_⟩; gi_at_call 34; refine (CallsIn.inRound l (callsIn_wide.2 HTX.out)).mono ?_; rintro e W3 ⟨rfl, h1⟩; refine Hid.out ?_)
           refine Lib.hid ?_
           have HU3 : Hid (Upd (fun k => k = kn) W W3) := updOn (updOn HU1.out HB2.out) h1
           have HT3 : Hid (W3.ownsRow b 3 1 (.slice A2 tr.length c2) tr.length (ints tr)) := ownsRow_base (ownsRow_belowX HT2.out h1) (fun g hg => by have h7 := (HT2.out.lt g hg).1; have := HDX.out; have := HU1.out.size; omega)
           have HN3 : Hid (Own W3 3 kn [.int .i64 ((pre.length : Int) + 1)]) := (HO1.out.below HB2.out).below h1
           clear h1 HTX HT2 HB2 HO1 HU1
           have hmp : MapX InT 9 encT W3 Wf.heap.size L.length (setV L) := HCk.out.map.upd HU3.out (by simp only; have := HKN2.out; omega)
           have hlk := MapX.look lawT Tryz.underlying71 hmp (zeroO W3) HIN.out (keyT HIN.out)
           have lw := HO.out
           have m0 := (HCk.out.mbox.keep HU3.out (by simp only; omega)).cell (i := 0) rfl
           simp only at m0
           have HMP := Lib.hid hmp
           clear hmp lw
           by_cases hin : tr ∈ L
           · have hv : setV L tr = some (.bool true) := by unfold setV; rw [if_pos hin]
             rw [hv, Option.getD_some] at hlk
             have HON : Hid (onceStep L tr = L) := by show _ = _; unfold onceStep; rw [if_pos hin]
             clear hv hin
             generalize (⟨(textM tr).toArray⟩ : ByteArray) = tx at hlk ⊢
             gi_wp2
             have hC3 : CAt W3 X.B b K ⟨⟨tA, tc⟩, ⟨qA, qc⟩⟩ ho' T OO u (pre.length + 1) L := by
              rw [HK.out]
              obtain ⟨v, hv, hr⟩ := HCk.out.rbox
              have lw := HO.out
              refine HCk.out.round (HU3.out.mono (fun k _ e => .inl e)) HN3.out ⟨v, hv.keep HU3.out (by simp only; omega), hr.upd HU3.out (fun k cs t fz hk _ _ e => by have := KB.out; omega)⟩ HMP.out
             have hR3 : Upd (RdS W K b) W W3 := HU3.out.mono (fun k _ e => .inl (by rw [HK.out]; exact e))
             have l1 := HSB.out
             have l2 := HKN2.out
             have l3 := HBf.out.size
             refine ⟨rd_keeps hR3 (by rw [HK.out]; simp only; omega) (by rw [HK.out]; simp only; omega) (by rw [HK.out]; simp only; omega), HC.out.kp hR3 (fun k hk => by have := HST.out k hk; omega) (by omega) hb, ?_, HBWb.out.trans (HU3.out.below HBWb.out.size (fun k e => by omega)), Nat.le_trans HXWb.out HU3.out.size⟩
             rw [HL.out, HON.out]
             exact hC3
           · have hv : setV L tr = none := by unfold setV; rw [if_neg hin]
             rw [hv, Option.getD_none] at hlk
             have HON : Hid (onceStep L tr = L ++ [tr]) := by show _ = _; unfold onceStep; rw [if_neg hin]
             obtain ⟨W4, hrun, hm4, htr⟩ := MapX.put encT_inj lawT Tryz.underlying71 HMP.out (by have := HLL.out; unfold maxLen; omega) HIN.out (keyT HIN.out) (.bool true)
             rw [hv] at hm4
             have HM4 : Hid (MapX InT 9 encT W4 Wf.heap.size (L ++ [tr]).length (setV (L ++ [tr]))) := by
              have e : (fun x => if x = tr then some (Value.bool true) else setV L x) = setV (L ++ [tr]) := by funext x; exact setV_snoc L tr x
              rw [e] at hm4
              rw [List.length_append, List.length_singleton]
              exact hm4
             have HUM : Hid (Upd (fun k => k = Wf.heap.size) W3 W4) := mapTurned_updX htr
             clear hv hin hm4 htr
             generalize (⟨(textM tr).toArray⟩ : ByteArray) = tx at hlk hrun ⊢
             gi_upto_region 18 with (fail)
             clear hlk hrun m0
             have HU4 : Hid (Upd (fun k => k = kn ∨ k = Wf.heap.size) W W4) := (HU3.out.mono (fun _ _ e => .inl e)).trans HUM.out (fun _ _ e => .inr e)
             obtain ⟨v, hv, ts, r1, r2, r3⟩ := HCk.out.rbox
             obtain ⟨vA, vc, rfl⟩ := ownsRow_form r2
             have l0 := KB.out
             have lw := HO.out
             have HV4 : Hid (Own W4 42 kr [.slice vA L.length vc]) := hv.keep HU4.out (by simp only at lw ⊢; omega)
             have hlow : ∀ {e : TypeId} {n : Nat} {v : Value} {xs : List Value}, W.ownsRow b e 1 v n xs → W4.ownsRow b e 1 v n xs := fun h => ownsRow_upd h HU4.out (fun k hk hs => by have := (h.lt k hk).1; omega)
             have HR2 := Lib.hid (hlow r2)
             have HR3 : Hid (∀ (i : Nat) (l : List Int) (t : SV), L[i]? = some l → ts[i]? = some t → W4.ownsRow b 3 1 (.slice t.A l.length t.c) l.length (ints l)) := fun i l t hl ht => hlow (r3 i l t hl ht)
             have HR0 := Lib.hid r2
             have HTS := Lib.hid r1
             have HT4 : Hid (W4.ownsRow b 3 1 (.slice A2 tr.length c2) tr.length (ints tr)) := ownsRow_upd HT3.out HUM.out (fun k hk hs => by have := (HT3.out.lt k hk).1; omega)
             have HN4 := Lib.hid (HN3.out.keep HUM.out (by have := HKN2.out; omega))
             have b4 : b ≤ W4.heap.size := by have := HU4.out.size; have := HDX.out; omega
             have LL := HLL.out
             have r0 := HV4.out.cell (i := 0) rfl
             obtain ⟨is, his, hiz, hiss, hib⟩ := info_parts' (P := Tryz.prog) (t := 22) (z := some (.slice none 0 0)) (s := 1) (b := 24) (by kernel_rfl)
             clear hv r1 r2 r3 hlow lw l0 HU3 HN3 HT3 HUM HMP
             gi_wp2_with (gi_at_builtin; refine wpListIn_append_one rfl _ _ 42 rfl 22 is (.slice none 0 0) 1 24 Tryz.underlying42 his hiz hiss hib rfl (by decide) b _ L.length _ rfl HR2.out [.slice A2 tr.length c2] _ rfl rfl (by intro u hu; simp only [List.mem_cons, List.not_mem_nil, or_false] at hu; subst hu; rfl) rfl (by unfold maxLen; omega) (by omega) (by omega) ?_; intro g6 c6 w6 h1 h2; refine Hid.out ?_)
             refine Lib.hid ?_
             have HU6 : Hid (Upd (fun k => (Value.slice vA L.length vc).ownBlock = some k) W4 w6) := Upd.trans ((Upd.refl _ W4).alloc _) (Upd.of_grown h2) (fun i _ h => h)
             have hbk : ∀ k, (Value.slice vA L.length vc).ownBlock = some k → b ≤ k := fun k hk => (HR2.out.lt k hk).1
             have l0 := KB.out
             have HV6 := Lib.hid (HV4.out.keep HU6.out (fun e => by have := hbk _ e; omega))
             have HRS : Hid (ResAt w6 b (.slice (some ⟨g6, 0, none⟩) (L.length + 1) c6) (L ++ [tr])) := ResAt.snoc (t := ⟨A2, c2⟩) HTS.out HR2.out HR3.out HT4.out h1 HU6.out
             have r6 := HV6.out.cell (i := 0) rfl
             have f6 := HV6.out.frozen 0
             clear h1 h2 r0 b4 LL his hiz hiss hib
             gi_wp2
             generalize hW7 : World.setCell _ _ _ = W7
             have u7 : Upd (fun k => k = kr) w6 W7 := by rw [← hW7]; exact (Upd.refl (fun k => k = kr) w6).setCell (p := ⟨kr, 0, none⟩) (.inl rfl) _
             have o7 : Own W7 42 kr [.slice (some ⟨g6, 0, none⟩) (L.length + 1) c6] := by rw [← hW7]; exact HV6.out.set (i := 0) (by simp) _
             have u47 : Upd (fun k => k = kr ∨ (Value.slice vA L.length vc).ownBlock = some k) W4 W7 := (HU6.out.mono (fun _ _ e => .inr e)).trans u7 (fun _ _ e => .inl e)
             have u07 : Upd (fun k => k = kn ∨ k = Wf.heap.size ∨ k = kr ∨ (Value.slice vA L.length vc).ownBlock = some k) W W7 := (HU4.out.mono (fun _ _ e => by rcases e with e | e; exact .inl e; exact .inr (.inl e))).trans u47 (fun _ _ e => .inr (.inr e))
             have l1 := HSB.out
             have l2 := HKN2.out
             have l3 := HBf.out.size
             have hC7 : CAt W7 X.B b K ⟨⟨tA, tc⟩, ⟨qA, qc⟩⟩ ho' T OO u (pre.length + 1) (L ++ [tr]) := by
              rw [HK.out]
              refine HCk.out.round (u07.mono (fun k _ e => ?_)) (HN4.out.keep u47 (fun e => ?_)) ⟨_, o7, HRS.out.upd u7 (fun k cs t fz hk _ _ e => by omega)⟩ (HM4.out.upd u47 (fun e => ?_))
              · rcases e with e | e | e | e
                · exact .inl e
                · exact .inr (.inl e)
                · exact .inr (.inr (.inl e))
                · have := hbk _ e; exact .inr (.inr (.inr (by omega)))
              · rcases e with e | e
                · omega
                · have := hbk _ e; omega
              · rcases e with e | e
                · omega
                · have := hbk _ e; omega
             have hR7 : Upd (RdS W K b) W W7 := u07.mono (fun k _ e => by
              rw [HK.out]
              rcases e with e | e | e | e
              · exact .inl e
              · exact .inr (.inl e)
              · exact .inr (.inr (.inl e))
              · exact .inr (.inr (.inr ⟨hbk _ e, ownsRow_typed HR0.out k e⟩)))
             refine ⟨rd_keeps hR7 (by rw [HK.out]; simp only; omega) (by rw [HK.out]; simp only; omega) (by rw [HK.out]; simp only; omega), HC.out.kp hR7 (fun k hk => by have := HST.out k hk; omega) (by omega) hb, ?_, HBWb.out.trans (u07.below HBWb.out.size (fun k e => by rcases e with e | e | e | e; omega; omega; omega; (have := hbk _ e; omega))), Nat.le_trans HXWb.out (Nat.le_trans HU4.out.size HU6.out.size)⟩
             rw [HL.out, HON.out]
             exact hC7
         case leave =>
          as_aux_lemma =>
           rintro l b pre ⟨xb, ds⟩ W k hb ⟨hC, hBw, hXW⟩ ⟨hp, _, _, _, _, _⟩ hk hbx
           clear hk hbx
           obtain ⟨L, hL⟩ : ∃ L, onceM (pre.map (fun x => traceM T x.2 u)) = L := ⟨_, rfl⟩
           rw [hL] at hC
           clear hL
           have HC := Lib.hid hC
           rw [HK.out] at hC
           have hord := hC.ord
           simp only at hord
           have c0 := hC.nbox.cell (i := 0) rfl
           have f0 := hC.nbox.frozen 0
           simp only at c0 f0
           have hpl : (400 : Int) < (pre.length : Int) + 1 := by omega
           have hpu : (pre.length : Int) ≤ 400 := by omega
           have HO := Lib.hid hord
           have HCk := Lib.hid hC
           have HBWb := Lib.hid hBw
           have HXWb := Lib.hid hXW
           clear hC hord hp hBw hXW
           gi_upto_region 12 with (fail)
           generalize hW1 : World.setCell _ _ _ = W1
           have u1 : Upd (fun k => k = kn) W W1 := by rw [← hW1]; exact (Upd.refl (fun k => k = kn) W).setCell (p := ⟨kn, 0, none⟩) (.inl rfl) _
           have o1 : Own W1 3 kn [.int .i64 ((pre.length : Int) + 1)] := by rw [← hW1]; exact HCk.out.nbox.set (i := 0) (by simp) _
           clear hW1 c0 f0
           have n0 := o1.cell (i := 0) rfl
           have lw := HO.out
           have q3 := HCk.out.rrbox.keep u1 (by simp only; omega)
           have q4 := HCk.out.erbox.keep u1 (by simp only; omega)
           simp only at q3 q4
           have z3 := q3.cell (i := 0) rfl
           have z4 := q4.cell (i := 0) rfl
           have f3 := q3.frozen 0
           have f4 := q4.frozen 0
           have HU1 := Lib.hid u1
           have HQ3 := Lib.hid q3
           have HQ4 := Lib.hid q4
           clear u1 o1 lw q3 q4
           gi_wp2
           obtain ⟨Wg, HWg⟩ : ∃ Wg, Hid (Wg = (W1.setCell ⟨b3, 0, none⟩ (.slice none 0 0)).setCell ⟨b4, 0, none⟩ (.int .i64 3)) := ⟨_, rfl⟩
           rw [← HWg.out]
           obtain ⟨q3, q4, hu⟩ := stored2 HQ3.out HQ4.out n34 HWg.out
           have lw := HO.out
           have l1 := HSB.out
           have l2 := HKN2.out
           have ug : Upd (fun k => k = kn ∨ k = b3 ∨ k = b4) W Wg := (HU1.out.mono (fun _ _ e => .inl e)).trans hu (fun _ _ e => .inr e)
           have hown : ∀ k, (k = kn ∨ k = b3 ∨ k = b4) → k < X.B ∧ ∃ t cs, Own W t k cs ∧ ¬ TyS t := fun k e => by
            rcases e with rfl | rfl | rfl
            · exact ⟨by omega, _, _, HCk.out.nbox, by unfold TyS; decide⟩
            · exact ⟨by omega, _, _, HCk.out.rrbox, by unfold TyS; decide⟩
            · exact ⟨by omega, _, _, HCk.out.erbox, by unfold TyS; decide⟩
           refine ⟨keepsFrom_upd _ ug (fun k o e hk => by obtain ⟨_, t, cs, h5, _⟩ := hown k e; exact h5.isCells hk), kp_of ug hown (fun k hk => by have := HST.out k hk; omega) (by omega), q3, q4, HBWb.out.trans (ug.below HBWb.out.size (fun k e => ?_)), Nat.le_trans HXWb.out HU1.out.size⟩
           have l3 := HNM.out
           have l4 := HBf.out.size
           rcases e with e | e | e <;> omega
         case done =>
          as_aux_lemma =>
           rintro D b xs W hD hb ⟨hE, hxl⟩ ⟨hC, hBw, hXW⟩ hK
           have HKD := Lib.hid hK; clear hK
           rw [HK.out] at hC
           obtain ⟨v, hv, hr⟩ := hC.rbox
           simp only at hv
           obtain ⟨rA, rc, rfl, _⟩ := hr.form
           have HCk := Lib.hid hC
           have HR := Lib.hid hr
           have HV := Lib.hid hv
           have c1 := hv.cell (i := 0) rfl
           have q3 := hC.rrbox
           have q4 := hC.erbox
           simp only at q3 q4
           have z3 := q3.cell (i := 0) rfl
           have z4 := q4.cell (i := 0) rfl
           have f3 := q3.frozen 0
           have f4 := q4.frozen 0
           have HQ3 := Lib.hid q3
           have HQ4 := Lib.hid q4
           have HBWb := Lib.hid hBw
           have HEN := Lib.hid hE
           have HXL := Lib.hid hxl
           clear hC hv hr q3 q4 hBw hXW hE hxl
           have HLX : Hid (onceM (xs.map (fun x => traceM T x.2 u)) = onceM ((xs.map Prod.snd).map (fun x => traceM T x u))) := by show _ = _; rw [List.map_map]; rfl
           generalize onceM (xs.map (fun x => traceM T x.2 u)) = L at HCk HR HV c1 HLX ⊢
           gi_wp2
           obtain ⟨Wg, HWg⟩ : ∃ Wg, Hid (Wg = (W.setCell ⟨b3, 0, none⟩ (.slice rA L.length rc)).setCell ⟨b4, 0, none⟩ (.int .i64 0)) := ⟨_, rfl⟩
           rw [← HWg.out]
           obtain ⟨q3, q4, hu⟩ := stored2 HQ3.out HQ4.out n34 HWg.out
           have l1 := R3.out.lt
           have l2 := R4.out.lt
           have l3 := HSB.out
           have l4 := HBf.out.size
           have l5 := HNM.out
           have hd := hu.keep HKD.out (fun e => by rcases e with e | e <;> omega)
           refine ⟨by simp, .inl ⟨_, _, rfl, run_takeDeferred hd, ?_⟩⟩
           have ht := TurnS.putObj (S := fun k => k = D) (.deferred none) rfl hd rfl
           have hr2 : ResAt Wg b (.slice rA L.length rc) L := HR.out.upd hu (fun k cs t fz hk _ _ e => by rcases e with e | e <;> omega)
           have y3 := (q3.turn ht).cell (i := 0) rfl
           have y4 := (q4.turn ht).cell (i := 0) rfl
           have hr3 := hr2.upd ht (fun k cs t fz hk hc _ hs => by
            obtain ⟨_, o, h1, h2⟩ := hs
            rw [hc] at h1
            cases h1
            cases h2)
           refine ⟨.tuple #[.slice rA L.length rc, .int .i64 0], by simp [results, Tryz.results16, go_sem, y3, y4], L, 0, rA, rc, rfl, hr3.nums.2, (HBWb.out.trans (hu.below HBWb.out.size (fun k e => by rcases e with e | e <;> omega))).trans (Upd.below ht (Nat.le_trans HBWb.out.size hu.size) (fun k e => by have := e.1; omega)), .inr ⟨HOK.out, hu0, hu1, .inr ⟨T, OO, xs.map Prod.snd, HFI.out, ?_, .inr ⟨rfl, by rw [List.length_map]; exact HXL.out, HLX.out⟩⟩⟩⟩
           have h := HEN.out
           rw [HXN.out] at h
           exact h.choices HTT.out HFD.out HKF.out
         case stop =>
          as_aux_lemma =>
           rintro D b xs W hD hb ⟨Y, hE, hY⟩ ⟨h3, h4, hBw, hXW⟩ hK
           have HKD := Lib.hid hK; clear hK
           have z3 := h3.cell (i := 0) rfl
           have z4 := h4.cell (i := 0) rfl
           have H3 := Lib.hid h3
           have H4 := Lib.hid h4
           have HBWb := Lib.hid hBw
           have HEN := Lib.hid hE
           have HYL := Lib.hid hY
           clear h3 h4 hBw hXW hE hY
           gi_wp2
           refine ⟨by simp, .inl ⟨_, _, rfl, run_takeDeferred HKD.out, ?_⟩⟩
           have ht := TurnS.putObj (S := fun k => k = D) (.deferred none) rfl HKD.out rfl
           have y3 := (H3.out.turn ht).cell (i := 0) rfl
           have y4 := (H4.out.turn ht).cell (i := 0) rfl
           have l3 := HSB.out
           refine ⟨.tuple #[.slice none 0 0, .int .i64 3], by simp [results, Tryz.results16, go_sem, y3, y4], [], 3, none, 0, rfl, numsNil _, HBWb.out.trans (Upd.below ht HBWb.out.size (fun k e => by have := e.1; omega)), .inr ⟨HOK.out, hu0, hu1, .inr ⟨T, OO, Y, HFI.out, ?_, .inl ⟨rfl, rfl, HYL.out⟩⟩⟩⟩
           have h := HEN.out
           rw [HXN.out] at h
           exact h.choices HTT.out HFD.out HKF.out
       · have HEV := Lib.hid hev
         have z3 := R3.out.cell (i := 0) rfl
         have z4 := R4.out.cell (i := 0) rfl
         have f3 := R3.out.frozen 0
         have f4 := R4.out.frozen 0
         clear hev HQ1 HWf R1H
         gi_wp2
         obtain ⟨Wg, HWg⟩ : ∃ Wg, Hid (Wg = (Wf.setCell ⟨b3, 0, none⟩ (.slice none 0 0)).setCell ⟨b4, 0, none⟩ (.int .i64 23)) := ⟨_, rfl⟩
         rw [← HWg.out]
         obtain ⟨q3, q4, hu⟩ := stored2 R3.out R4.out n34 HWg.out
         have y3 := q3.cell (i := 0) rfl
         have y4 := q4.cell (i := 0) rfl
         refine ⟨.tuple #[.slice none 0 0, .int .i64 23], by simp [results, Tryz.results16, go_sem, y3, y4], [], 23, none, 0, rfl, numsNil _, HBf.out.trans (hu.below HBf.out.size (fun k e => by have := HNM.out; rcases e with e | e <;> omega)), .inr ⟨HOK.out, hu0, hu1, .inl ⟨rfl, rfl, HEV.out⟩⟩⟩
     · have g1 : ¬ (u < 0) := by omega
       have g2 : C.days < u := by omega
       gi_wp2_with (refine ⟨trivial, ?_⟩; gi_at_call 12; refine (callsIn_wide.2 HFV.out).mono ?_; rintro e Z ⟨rfl, hz⟩; refine Hid.out ?_)
       refine Lib.hid ?_
       have HZ : Hid (Below w.heap.size w Z) := Below.step HB.out hz
       have P1 := Lib.hid (O1H.out.below hz)
       have P2 := Lib.hid (O2H.out.below hz)
       have P3 := Lib.hid (O3H.out.below hz)
       have P4 := Lib.hid (O4H.out.below hz)
       have z5 := (O0H.out.below hz).cell (i := 5) rfl
       have z2 := P2.out.cell (i := 0) rfl
       have z3 := P3.out.cell (i := 0) rfl
       have z4 := P4.out.cell (i := 0) rfl
       have f3 := P3.out.frozen 0
       have f4 := P4.out.frozen 0
       clear hz x0 x1 x2 x3 x4 x5 x6 y0 y1 y2
       gi_wp2
       obtain ⟨Wf, HWf⟩ : ∃ Wf, Hid (Wf = (Z.setCell ⟨b3, 0, none⟩ (.slice none 0 0)).setCell ⟨b4, 0, none⟩ (.int .i64 1)) := ⟨_, rfl⟩
       rw [← HWf.out]
       obtain ⟨q3, q4, hu⟩ := stored2 P3.out P4.out n34 HWf.out
       have y3 := q3.cell (i := 0) rfl
       have y4 := q4.cell (i := 0) rfl
       refine ⟨.tuple #[.slice none 0 0, .int .i64 1], by simp [results, Tryz.results16, go_sem, y3, y4], [], 1, none, 0, rfl, numsNil _, HZ.out.trans (hu.below HZ.out.size (fun k e => by have := HNM.out; rcases e with e | e <;> omega)), .inl ⟨rfl, rfl, fun h => by have := h.2.2; omega⟩⟩
   · have g1 : u < 0 := by omega
     gi_wp2_with (refine ⟨trivial, ?_⟩; gi_at_call 12; refine (callsIn_wide.2 HFV.out).mono ?_; rintro e Z ⟨rfl, hz⟩; refine Hid.out ?_)
     refine Lib.hid ?_
     have HZ : Hid (Below w.heap.size w Z) := Below.step HB.out hz
     have P1 := Lib.hid (O1H.out.below hz)
     have P2 := Lib.hid (O2H.out.below hz)
     have P3 := Lib.hid (O3H.out.below hz)
     have P4 := Lib.hid (O4H.out.below hz)
     have z5 := (O0H.out.below hz).cell (i := 5) rfl
     have z2 := P2.out.cell (i := 0) rfl
     have z3 := P3.out.cell (i := 0) rfl
     have z4 := P4.out.cell (i := 0) rfl
     have f3 := P3.out.frozen 0
     have f4 := P4.out.frozen 0
     clear hz x0 x1 x2 x3 x4 x5 x6 y0 y1 y2
     gi_wp2
     obtain ⟨Wf, HWf⟩ : ∃ Wf, Hid (Wf = (Z.setCell ⟨b3, 0, none⟩ (.slice none 0 0)).setCell ⟨b4, 0, none⟩ (.int .i64 1)) := ⟨_, rfl⟩
     rw [← HWf.out]
     obtain ⟨q3, q4, hu⟩ := stored2 P3.out P4.out n34 HWf.out
     have y3 := q3.cell (i := 0) rfl
     have y4 := q4.cell (i := 0) rfl
     refine ⟨.tuple #[.slice none 0 0, .int .i64 1], by simp [results, Tryz.results16, go_sem, y3, y4], [], 1, none, 0, rfl, numsNil _, HZ.out.trans (hu.below HZ.out.size (fun k e => by have := HNM.out; rcases e with e | e <;> omega)), .inl ⟨rfl, rfl, fun h => by have := h.2.1; omega⟩⟩
 · rw [show okFile C ⟨ho, F, O⟩ = false by simpa using hok] at HFV
   gi_wp2_with (refine ⟨trivial, ?_⟩; gi_at_call 12; refine (callsIn_wide.2 HFV.out).mono ?_; rintro e Z ⟨rfl, hz⟩; refine Hid.out ?_)
   refine Lib.hid ?_
   have HZ : Hid (Below w.heap.size w Z) := Below.step HB.out hz
   have P1 := Lib.hid (O1H.out.below hz)
   have P2 := Lib.hid (O2H.out.below hz)
   have P3 := Lib.hid (O3H.out.below hz)
   have P4 := Lib.hid (O4H.out.below hz)
   have z5 := (O0H.out.below hz).cell (i := 5) rfl
   have z2 := P2.out.cell (i := 0) rfl
   have z3 := P3.out.cell (i := 0) rfl
   have z4 := P4.out.cell (i := 0) rfl
   have f3 := P3.out.frozen 0
   have f4 := P4.out.frozen 0
   clear hz x0 x1 x2 x3 x4 x5 x6 y0 y1 y2
   gi_wp2
   obtain ⟨Wf, HWf⟩ : ∃ Wf, Hid (Wf = (Z.setCell ⟨b3, 0, none⟩ (.slice none 0 0)).setCell ⟨b4, 0, none⟩ (.int .i64 1)) := ⟨_, rfl⟩
   rw [← HWf.out]
   obtain ⟨q3, q4, hu⟩ := stored2 P3.out P4.out n34 HWf.out
   have y3 := q3.cell (i := 0) rfl
   have y4 := q4.cell (i := 0) rfl
   refine ⟨.tuple #[.slice none 0 0, .int .i64 1], by simp [results, Tryz.results16, go_sem, y3, y4], [], 1, none, 0, rfl, numsNil _, HZ.out.trans (hu.below HZ.out.size (fun k e => by have := HNM.out; rcases e with e | e <;> omega)), .inl ⟨rfl, rfl, fun h => hok h.1⟩⟩
end Go.Proofs.YtahhdjeclbagnaaGreatDoor
