/-
  CsC; CsE
-/
import Derived.Sort.CutIn
import Derived.Test.YtahhdjeclbagnaaGreatDoorQ24
import Derived.Test.YtahhdjeclbagnaaGreatDoorQ17
import Derived.Test.YtahhdjeclbagnaaGreatDoorQ14
namespace Go.Proofs.YtahhdjeclbagnaaGreatDoor
open Go.RowKit Go.Shelf
attribute [local go_sem] Oper.semAt_some
theorem factCells_len (F : List KFact) : (factCells F).length = F.length * 6 := length_flat KFact.cells 6 (fun _ => rfl) F
theorem factCells_get {F : List KFact} {i j : Nat} {x : KFact} (hi : F[i]? = some x) (hj : j < 6) : (factCells F)[i * 6 + j]? = x.cells[j]? := get_flat KFact.cells 6 (fun _ => rfl) F i j x hi hj
theorem factCells_one (F : List KFact) : ∀ u ∈ factCells F, u.oneCell' = true := by
 intro u hu
 obtain ⟨x, _, hx⟩ := List.mem_flatMap.1 hu
 simp only [KFact.cells, List.mem_cons, List.not_mem_nil, or_false] at hx
 rcases hx with rfl | rfl | rfl | rfl | rfl | rfl <;> rfl
theorem facts_setLow {F : List KFact} {i : Nat} {y : KFact} (hy : F[i]? = some y) (v : Int) : (factCells F).set (i * 6 + 2) (.int .i64 v) = factCells (F.set i (y.setLow v)) := flat_set KFact.cells 6 (fun _ => rfl) _ _ F i 2 y hy (by omega) rfl
theorem facts_setHigh {F : List KFact} {i : Nat} {y : KFact} (hy : F[i]? = some y) (v : Int) : (factCells F).set (i * 6 + 3) (.int .i64 v) = factCells (F.set i (y.setHigh v)) := flat_set KFact.cells 6 (fun _ => rfl) _ _ F i 3 y hy (by omega) rfl
theorem Own.fact {w : World} {t : TypeId} {b : Nat} {F : List KFact} (h : Own w t b (factCells F)) {i : Nat} {x : KFact} (hx : F[i]? = some x) {j : Nat} (hj : j < 6) {u : Value} (hu : x.cells[j]? = some u) : w.cell? ⟨b, i * 6 + j, none⟩ = some u := h.cell ((factCells_get hx hj).trans hu)
theorem sweepL_to {P : List (Nat × Nat)} {F : List KFact} {k : Nat} {p : Nat × Nat} (hp : P[k]? = some p) : (P.take (k + 1)).foldl stepL F = stepL ((P.take k).foldl stepL F) p := by
 rw [List.take_add_one, hp, List.foldl_append]; rfl
set_option maxRecDepth 100000 in
set_option maxHeartbeats 4000000 in
theorem tightenAll_any (F : List KFact) (fb fc : Nat) (P : List (Nat × Nat)) (pA : Option Addr) (pc : Nat) (w : World) (hF : Own w 50 fb (factCells F)) (hP : At w 2 pA P.length pc (pairCells P)) (hin : ∀ p ∈ P, p.1 < F.length ∧ p.2 < F.length) (hne : ∀ b off, pA = some ⟨b, off, none⟩ → b ≠ fb) (hpl : P.length ≤ 1000000) :
 Calls Tryz.prog 64 #[.slice (some ⟨fb, 0, none⟩) F.length fc, .slice pA P.length pc] w (fun e w' => e = .returned (.tuple #[]) ∧ Own w' 50 fb (factCells (sweep P F)) ∧ Upd (fun k => k = fb) w w') := by
 have hfw := hF.lt
 have HF := Lib.hid hF; clear hF
 have HP := Lib.hid hP; clear hP
 have HIN := Lib.hid hin; clear hin
 have HNE := Lib.hid hne; clear hne
 refine (callsIn_wide (n := 3)).1 ?_
 refine callsIn_of_wp_marks Tryz.func64 rfl trivial ?_ rfl
 simp only [Tryz.ntmps64, List.size_toArray, List.length_cons, List.length_nil, Nat.reduceAdd, Nat.reduceSub, Array.replicate_succ, Array.replicate_zero, List.push_toArray, List.append_toArray, List.nil_append, List.cons_append]
 gi_upto_region 1 with (fail)
 generalize hW0 : World.alloc _ _ = W0
 obtain ⟨HB, hh0⟩ := bx1 hW0
 have hb0 : W0.cell? ⟨w.heap.size, 0, none⟩ = some (.slice (some ⟨fb, 0, none⟩) F.length fc) := (cell_of_row W0 _ 0 _ _ _ hh0).trans rfl
 have hs0 : w.heap.size < W0.heap.size := lt_of_heap hh0
 clear hW0 hh0
 have HO0 := Lib.hid (HF.out.below HB.out)
 have HP0 := Lib.hid (HP.out.below (by omega) HB.out)
 clear HF HP
 gi_wp2
 gi_loopw [14] (fun v wr => ∃ k : Nat, k ≤ P.length ∧ v = .int .i64 k ∧ Hid (Own wr 50 fb (factCells ((P.take k).foldl stepL F))) ∧ Hid (Upd (fun k => k = fb) W0 wr)) (fun v _ => P.length - (intOf v).toNat)
 case atStart => exact ⟨0, Nat.zero_le _, rfl, HO0, Upd.refl _ _⟩
 case round =>
  obtain ⟨k, hk, rfl, HO, HU⟩ := hrel
  by_cases hlt : k < P.length
  · obtain ⟨⟨a, b⟩, hp⟩ : ∃ p, P[k]? = some p := ⟨P[k], List.getElem?_eq_getElem hlt⟩
    obtain ⟨hia, hib⟩ := HIN.out _ (List.mem_of_getElem? hp)
    simp only at hia hib
    obtain ⟨pb, po, hA, hpb, hpc⟩ := (HP0.out.1).form (by omega) (by omega)
    subst hA
    have hpn := HNE.out pb po rfl
    have hsr := HU.out.size
    have e0 : wr.cell? ⟨pb, po + k * 2, none⟩ = some (.int .i64 a) := by rw [updCell HU.out hpb hpn, hpc _ (by omega)]; exact pairCells_get (j := 0) hp (by omega)
    have e1 : wr.cell? ⟨pb, po + k * 2 + 1, none⟩ = some (.int .i64 b) := by rw [updCell HU.out hpb hpn, Nat.add_assoc, hpc _ (by omega)]; exact pairCells_get (j := 1) hp (by omega)
    have b0 := (updCell (o := 0) HU.out hs0 (by omega)).trans hb0
    generalize hG : (P.take k).foldl stepL F = G at HO
    have hGl : G.length = F.length := by rw [← hG]; exact (foldL_less _ _).length
    obtain ⟨x, hx⟩ : ∃ x, G[a]? = some x := ⟨G[a]'(by omega), List.getElem?_eq_getElem (by omega)⟩
    obtain ⟨y, hy⟩ : ∃ y, G[b]? = some y := ⟨G[b]'(by omega), List.getElem?_eq_getElem (by omega)⟩
    have HNX : Hid ((P.take (k + 1)).foldl stepL F = G.set b (y.setLow (max y.low x.low))) := by show _ = _; rw [sweepL_to hp, hG]; exact stepL_eq hx hy
    have HX := Lib.hid hx; clear hx
    have HY := Lib.hid hy; clear hy
    clear hp hpc hG
    gi_upto_region 4 with (fail)
    generalize hWa : World.alloc _ _ = Wa
    obtain ⟨hba, hxa⟩ := bx1' hWa
    have q0 : Wa.cell? ⟨wr.heap.size, 0, none⟩ = some (.int .i64 a) := (cell_of_row Wa _ 0 _ _ _ hxa).trans rfl
    have q1 : Wa.cell? ⟨wr.heap.size, 1, none⟩ = some (.int .i64 b) := (cell_of_row Wa _ 1 _ _ _ hxa).trans rfl
    have HUa : Hid (Upd (fun k => k = fb) W0 Wa) := updOn HU.out hba
    have b1 : Wa.cell? ⟨w.heap.size, 0, none⟩ = some (.slice (some ⟨fb, 0, none⟩) F.length fc) := ((bcell hba).1 _ _ (by omega)).trans b0
    have HOa := Lib.hid (HO.out.below hba)
    have x2 : Wa.cell? ⟨fb, a * 6 + 2, none⟩ = some (.int .i64 x.low) := HOa.out.fact HX.out (by omega) rfl
    have y2 : Wa.cell? ⟨fb, b * 6 + 2, none⟩ = some (.int .i64 y.low) := HOa.out.fact HY.out (by omega) rfl
    have f2 := HOa.out.frozen (b * 6 + 2)
    have ia : (a : Int) < (F.length : Int) := by omega
    have ib : (b : Int) < (F.length : Int) := by omega
    clear hWa hba hxa e0 e1 b0 hb0
    refine wpIn_region_preN 9 (Lax.wide _) (by simp) (by kernel_rfl) (by kernel_rfl) ?_
    simp only [List.take_succ_cons, List.take_zero, List.drop_succ_cons, List.drop_zero]
    repeat (go_big_quiet_step (fail))
    refine wpQuiet_nil ?_
    rintro _ ⟨mq, rfl⟩
    gi_upto_region 5 with (fail)
    refine wpIn_region_preN 12 (Lax.wide _) (by simp) (by kernel_rfl) (by kernel_rfl) ?_
    simp only [List.take_succ_cons, List.take_zero, List.drop_succ_cons, List.drop_zero]
    repeat (go_big_quiet_step (fail))
    refine wpQuiet_nil ?_
    rintro _ ⟨mr, rfl⟩
    have HMX : Hid ((if y.low < x.low then x.low else y.low) = max y.low x.low) := by show _ = _; split <;> omega
    gi_wp2
    go_roundw
    case rel =>
     refine ⟨k + 1, by omega, by go_num, ?_, ?_⟩
     · have h := (HOa.out.keep (((Upd.refl (fun _ => False) Wa).drewN (mq + mr))) (fun h => h)).set (i := b * 6 + 2) (by rw [factCells_len]; omega) (.int .i64 (max y.low x.low))
       rw [facts_setLow HY.out, ← HNX.out, ← HMX.out] at h
       exact h
     · exact (HUa.out.drewN _).setCell (.inl rfl) _
    case measure => simp [intOf]; omega
  · obtain rfl : k = P.length := by omega
    have HG0 : Hid ((P.take P.length).foldl stepL F = P.foldl stepL F) := by show _ = _; rw [List.take_length]
    rw [HG0.out] at HO
    clear HG0 hk hlt
    gi_wp2_with (refine ⟨trivial, ?_⟩; gi_at_call 92; refine (callsIn_wide.2 (backwardP_any _ _ _ _)).mono ?_; rintro e z ⟨rfl, rfl⟩)
    generalize hW2 : World.alloc _ _ = W2
    obtain ⟨hb2, hh2⟩ := bx1' hW2
    have hs2 := hb2.size
    have hl2 : wr.heap.size < W2.heap.size := lt_of_heap hh2
    have hsr := HU.out.size
    have c2 : W2.cell? ⟨wr.heap.size, 0, none⟩ = some (.slice pA P.length pc) := (cell_of_row W2 _ 0 _ _ _ hh2).trans rfl
    have HU2 : Hid (Upd (fun k => k = fb) W0 W2) := updOn HU.out hb2
    have HP2 : Hid (At W2 2 pA P.length pc (pairCells P)) := updAt HP0.out (by omega) HU2.out HNE.out
    have HO2 := Lib.hid (HO.out.below hb2)
    have bw2 : W2.cell? ⟨w.heap.size, 0, none⟩ = some (.slice (some ⟨fb, 0, none⟩) F.length fc) := (updCell HU2.out (by omega) (by omega)).trans hb0
    clear hW2 hb2 hh2 HO HO0 hb0
    generalize hG0 : P.foldl stepL F = G0 at HO2
    have hG0l : G0.length = F.length := by rw [← hG0]; exact (foldL_less _ _).length
    have HG0 := Lib.hid hG0; clear hG0
    refine wpIn_range_gen (α := Nat × (Nat × Nat)) rfl (by omega) (gf := 110) rfl trivial (enters_of Tryz.func110 (by kernel_rfl) rfl)
     (fun W1 _ _ => backwardP_iter (Bw := wr.heap.size) (A := pA) (c := pc) (P := P) _ (by omega)
      (fun _ pre V => Own V 50 fb (factCells ((pre.map Prod.snd).foldl stepH G0)) ∧ Upd (fun k => k = fb) W2 V) W1
      (fun _ pre V h => ⟨(updCell h.2 hl2 (by omega)).trans c2, updAt HP2.out (by omega) h.2 HNE.out⟩)) (fun _ _ => rfl)
     (fun _ _ _ => True) (fun _ _ _ _ h ht => ⟨h.1.turn ht, updTurn h.2 ht (fun k hk => by omega)⟩) (fun _ _ _ _ h _ => h) (fun _ _ _ _ _ h _ => h) (fun _ _ _ _ _ h _ => h) (fun _ _ _ _ _ _ _ h _ => h)
     (fun _ _ _ _ _ _ h => h.elim) (fun _ _ _ _ _ _ h => h.elim) (fun _ _ _ _ _ _ h => h.elim)
     (fun x => [.cells #[.int .i64 x.2.1, .int .i64 x.2.2] 115]) (fun _ V hV _ => ⟨HO2.out.below hV, updOn (Upd.refl _ _) hV⟩) ?a1 ?assign ?body (fun _ _ _ _ _ _ _ _ h => h.elim) ?done (fun _ _ _ _ _ _ h => h.elim)
    case assign =>
     intro l b x W k K hk hK
     simp only [pairC]
     gi_wp2
     try rw [hk]
     exact hK
    case body =>
     as_aux_lemma =>
      rintro l b0 pre ⟨i, a, b⟩ W k hb ⟨hO, hU⟩ ⟨hpm, hxi, hx⟩ hk hbx
      have hq := hbx 0 _ rfl
      rw [Nat.add_zero] at hq
      simp only at hx hq
      obtain ⟨hia, hib⟩ := HIN.out (a, b) (List.mem_of_getElem? hx)
      simp only at hia hib
      generalize hG : (pre.map Prod.snd).foldl stepH G0 = G at hO
      have hGl : G.length = F.length := by rw [← hG, (foldH_less _ _).length]; exact hG0l
      obtain ⟨x, hxx⟩ : ∃ x, G[a]? = some x := ⟨G[a]'(by omega), List.getElem?_eq_getElem (by omega)⟩
      obtain ⟨y, hyy⟩ : ∃ y, G[b]? = some y := ⟨G[b]'(by omega), List.getElem?_eq_getElem (by omega)⟩
      have HNX : Hid (stepH ((pre.map Prod.snd).foldl stepH G0) (a, b) = G.set a (x.setHigh (min x.high y.high))) := by show _ = _; rw [hG]; exact stepH_eq (p := (a, b)) hxx hyy
      have HMX : Hid ((if y.high < x.high then y.high else x.high) = min x.high y.high) := by show _ = _; split <;> omega
      have HOa := Lib.hid hO; clear hO
      have HUa := Lib.hid hU; clear hU
      have q0 : W.cell? ⟨k, 0, none⟩ = some (.int .i64 a) := (cell_of_row W _ 0 _ _ _ hq).trans rfl
      have q1 : W.cell? ⟨k, 1, none⟩ = some (.int .i64 b) := (cell_of_row W _ 1 _ _ _ hq).trans rfl
      have b1 : W.cell? ⟨w.heap.size, 0, none⟩ = some (.slice (some ⟨fb, 0, none⟩) F.length fc) := (updCell HUa.out (by omega) (by omega)).trans bw2
      have x3 : W.cell? ⟨fb, a * 6 + 3, none⟩ = some (.int .i64 x.high) := HOa.out.fact hxx (by omega) rfl
      have y3 : W.cell? ⟨fb, b * 6 + 3, none⟩ = some (.int .i64 y.high) := HOa.out.fact hyy (by omega) rfl
      have f3 := HOa.out.frozen (a * 6 + 3)
      have ia : (a : Int) < (F.length : Int) := by omega
      have ib : (b : Int) < (F.length : Int) := by omega
      have HXX := Lib.hid hxx; clear hxx
      clear hx hq hbx hG hyy hpm hxi
      dsimp only
      gi_upto_region 9 with (fail)
      refine wpIn_region_preN 9 (Lax.round _ _) (by simp) (by kernel_rfl) (by kernel_rfl) ?_
      simp only [List.take_succ_cons, List.take_zero, List.drop_succ_cons, List.drop_zero]
      repeat (go_big_quiet_step (fail))
      refine wpQuiet_nil ?_
      rintro _ ⟨mq, rfl⟩
      gi_upto_region 10 with (fail)
      refine wpIn_region_preN 12 (Lax.round _ _) (by simp) (by kernel_rfl) (by kernel_rfl) ?_
      simp only [List.take_succ_cons, List.take_zero, List.drop_succ_cons, List.drop_zero]
      repeat (go_big_quiet_step (fail))
      refine wpQuiet_nil ?_
      rintro _ ⟨mr, rfl⟩
      rw [HMX.out]
      gi_wp2
      have hu : Upd (fun k => k = fb) W ((W.drewN (mq + mr)).setCell ⟨fb, a * 6 + 3, none⟩ (.int .i64 (min x.high y.high))) := ((Upd.refl (fun k => k = fb) W).drewN _).setCell (.inl rfl) _
      refine ⟨keepsFrom_upd _ hu (fun k o (e : k = fb) h => HOa.out.isCells (e ▸ h)), ?_, (HUa.out.drewN _).setCell (.inl rfl) _⟩
      have h := (HOa.out.keep (((Upd.refl (fun _ => False) W).drewN (mq + mr))) (fun h => h)).set (i := a * 6 + 3) (by rw [factCells_len]; omega) (.int .i64 (min x.high y.high))
      rw [facts_setHigh HXX.out, ← HNX.out] at h
      exact h
    case done =>
     rintro D b0 xs W hD hb hS ⟨hO, hU⟩ hK
     rw [hS] at hO
     refine ⟨by simp, .inl ⟨_, _, rfl, run_takeDeferred hK, ?_⟩⟩
     have ht := TurnS.putObj (S := fun k => k = D) (.deferred none) rfl hK rfl
     refine ⟨_, results_none rfl _ _ _, rfl, ?_, ?_⟩
     · rw [HG0.out.symm] at hO
       exact hO.turn ht
     · exact (((updOn (Upd.refl (fun k => k = fb) w) HB.out).trans HU2.out (fun _ _ h => h)).trans hU (fun _ _ h => h)).trans ht (fun i hi ⟨(h : i = D), _⟩ => by omega)
end Go.Proofs.YtahhdjeclbagnaaGreatDoor
namespace Go.Proofs.YtahhdjeclbagnaaGreatDoor
open Go.RowKit Go.Shelf
def OwnF (w : World) (A : Option Addr) (fb : Nat) (F : List KFact) : Prop := F = [] ∨ (A = some ⟨fb, 0, none⟩ ∧ Own w 50 fb (factCells F))
theorem OwnF.below {w w' : World} {A : Option Addr} {fb : Nat} {F : List KFact} (h : OwnF w A fb F) (hb : Below w.heap.size w w') : OwnF w' A fb F := h.imp id (fun h => ⟨h.1, h.2.below hb⟩)
theorem OwnF.keep {S : Nat → Prop} {w w' : World} {A : Option Addr} {fb : Nat} {F : List KFact} (h : OwnF w A fb F) (hu : Upd S w w') (hS : ¬ S fb) : OwnF w' A fb F := h.imp id (fun h => ⟨h.1, h.2.keep hu hS⟩)
theorem OwnF.form {w : World} {A : Option Addr} {fb : Nat} {F : List KFact} (h : OwnF w A fb F) {i : Nat} (hi : i < F.length) : A = some ⟨fb, 0, none⟩ ∧ Own w 50 fb (factCells F) := by
 rcases h with rfl | h
 · simp at hi
 · exact h
def allFine (T : List KFact) : Bool := T.all (fun t => decide (t.low ≤ t.high))
theorem allFine_iff {T : List KFact} : allFine T = true ↔ ∀ t ∈ T, t.low ≤ t.high := by simp [allFine]
theorem pairs_in {F : List KFact} {O : List KBef} (hD : Distinct F) (hK : Known F O) : ∀ p ∈ pairsOf F O, p.1 < F.length ∧ p.2 < F.length := fun p hp => by
 obtain ⟨b, hb, rfl⟩ := List.mem_map.1 hp
 obtain ⟨h1, h2⟩ := hK b hb
 obtain ⟨x, hx, _⟩ := idx_known hD h1
 obtain ⟨y, hy, _⟩ := idx_known hD h2
 exact ⟨(List.getElem?_eq_some_iff.1 hx).1, (List.getElem?_eq_some_iff.1 hy).1⟩
def TightPost (A : Option Addr) (fb : Nat) (F : List KFact) (O : List KBef) (w : World) (e : Ending) (w' : World) : Prop :=
 ∃ T, e = .returned (.bool (allFine T)) ∧ Tight F T O ∧ OwnF w' A fb T ∧ Upd (fun k => k = fb) w w'
set_option maxRecDepth 100000 in
set_option maxHeartbeats 4000000 in
theorem tighten_any (A : Option Addr) (fc fb : Nat) (oA : Option Addr) (oc : Nat) (ho : Int) (F : List KFact) (O : List KBef) (w : World) (hF : FileAt w ⟨⟨A, fc⟩, ⟨oA, oc⟩⟩ ⟨ho, F, O⟩) (hW : OwnF w A fb F) (hfb : fb < w.heap.size) (hR : ∀ x ∈ F, In64 x.ref) (hD : Distinct F) (hF4 : F.length ≤ 4000) (hO4 : O.length ≤ 4000) (hK : Known F O) :
 Calls Tryz.prog 45 #[.agg #[.int .i64 ho, .slice A F.length fc, .slice oA O.length oc]] w (TightPost A fb F O w) := by
 have HPL := Lib.hid (fun (w : World) (h : FileAt w ⟨⟨A, fc⟩, ⟨oA, oc⟩⟩ ⟨ho, F, O⟩) => places_any ⟨⟨A, fc⟩, ⟨oA, oc⟩⟩ ⟨ho, F, O⟩ w h hR hD hF4 hO4 hK)
 simp only [FV.val, FV.cells] at HPL
 have HF := Lib.hid hF; clear hF
 have HW := Lib.hid hW; clear hW
 have HD := Lib.hid hD; clear hD
 have HK := Lib.hid hK; clear hK
 clear hR
 go_enter Tryz.func45, Tryz.ntmps45
 go_wp2
 go_step3
 go_upto_region 1 with (fail)
 generalize hW0 : World.alloc _ _ = W0
 obtain ⟨HB, hh0⟩ := bx1 hW0
 have b0 : W0.cell? ⟨w.heap.size, 0, none⟩ = some (.int .i64 ho) := (cell_of_row W0 _ 0 _ _ _ hh0).trans rfl
 have b1 : W0.cell? ⟨w.heap.size, 1, none⟩ = some (.slice A F.length fc) := (cell_of_row W0 _ 1 _ _ _ hh0).trans rfl
 have b2 : W0.cell? ⟨w.heap.size, 2, none⟩ = some (.slice oA O.length oc) := (cell_of_row W0 _ 2 _ _ _ hh0).trans rfl
 have hs0 : w.heap.size < W0.heap.size := lt_of_heap hh0
 clear hW0 hh0
 have HP0 := Lib.hid (HPL.out W0 (HF.out.below HB.out)); clear HPL
 go_wp2_with (go_at_call 50; refine HP0.out.mono ?_; rintro e Z ⟨pA, pc, rfl, hP, hpn, hz⟩; refine Hid.out ?_)
 refine Lib.hid ?_
 have hPlen : (pairsOf F O).length ≤ 4000 := by unfold pairsOf; rw [List.length_map]; exact hO4
 have c1 : Z.cell? ⟨w.heap.size, 1, none⟩ = some (.slice A F.length fc) := ((bcell hz).1 _ _ hs0).trans b1
 have hsz := hz.size
 have HZ : Hid (Below w.heap.size w Z) := Below.step HB.out hz
 have HWZ := Lib.hid (HW.out.below HZ.out)
 have HIN := Lib.hid (pairs_in HD.out HK.out)
 have HPN : Hid (∀ b off, pA = some ⟨b, off, none⟩ → b ≠ fb) := fun b off e => by have := hpn b off e; omega
 generalize hPP : pairsOf F O = P at hP hPlen HIN
 have HPP := Lib.hid hPP; clear hPP
 have HP := Lib.hid hP; clear hP
 obtain ⟨M, m, hMm⟩ := bounds_of F
 have HMm := Lib.hid hMm; clear hMm
 clear hz hpn b0 b1 b2 HF HW HP0
 go_wp2
 go_step3
 go_wp2
 go_loopg [14] (gap M m F) (fun gk _ wr => ∃ T : List KFact, gk = gap M m T ∧ Hid (Swept P F T) ∧ Hid (OwnF wr A fb T) ∧ Hid (Upd (fun k => k = fb) Z wr))
 case atStart => exact ⟨F, rfl, Swept.refl _ _, HWZ, Upd.refl _ _⟩
 case round =>
  obtain ⟨T, hgk, HSW, HO, HU⟩ := hrel
  have HGK := Lib.hid hgk; clear hgk
  have hTl : T.length = F.length := HSW.out.less.length
  clear HWZ
  go_wp2
  go_loopg [14] P.length (fun g2 v14 wq => ∃ j : Nat, g2 = P.length - j ∧ j ≤ P.length ∧ v14 = .int .i64 j ∧ Hid (OwnF wq A fb T) ∧ Hid (Upd (fun k => k = fb) Z wq) ∧ Hid (∀ (i : Nat) (p : Nat × Nat), i < j → P[i]? = some p → ∀ x y, T[p.1]? = some x → T[p.2]? = some y → x.low ≤ y.low ∧ x.high ≤ y.high))
  case atStart => exact ⟨0, rfl, Nat.zero_le _, rfl, HO, HU, fun i p h => absurd h (Nat.not_lt_zero _)⟩
  case round =>
   clear HO HU
   obtain ⟨j, hg2, hj, rfl, HO, HU, HC⟩ := hrel
   have HG2 := Lib.hid hg2; clear hg2
   by_cases hlt : j < P.length
   · obtain ⟨⟨a, b⟩, hp⟩ : ∃ p, P[j]? = some p := ⟨P[j], List.getElem?_eq_getElem hlt⟩
     obtain ⟨hia, hib⟩ := HIN.out _ (List.mem_of_getElem? hp)
     simp only at hia hib
     obtain ⟨hA, hOw⟩ := HO.out.form (i := a) (by omega)
     subst hA
     obtain ⟨pb, po, hpA, hpb, hpc⟩ := (HP.out.1).form (by omega) (by omega)
     subst hpA
     have hpn := HPN.out pb po rfl
     have hsr := HU.out.size
     have e0 : wr.cell? ⟨pb, po + j * 2, none⟩ = some (.int .i64 a) := by rw [updCell HU.out hpb hpn, hpc _ (by omega)]; exact pairCells_get (j := 0) hp (by omega)
     have e1 : wr.cell? ⟨pb, po + j * 2 + 1, none⟩ = some (.int .i64 b) := by rw [updCell HU.out hpb hpn, Nat.add_assoc, hpc _ (by omega)]; exact pairCells_get (j := 1) hp (by omega)
     have d1 := (updCell (o := 1) HU.out (by omega) (by omega)).trans c1
     obtain ⟨x, hx⟩ : ∃ x, T[a]? = some x := ⟨T[a]'(by omega), List.getElem?_eq_getElem (by omega)⟩
     obtain ⟨y, hy⟩ : ∃ y, T[b]? = some y := ⟨T[b]'(by omega), List.getElem?_eq_getElem (by omega)⟩
     have x2 : wr.cell? ⟨fb, a * 6 + 2, none⟩ = some (.int .i64 x.low) := hOw.fact hx (by omega) rfl
     have x3 : wr.cell? ⟨fb, a * 6 + 3, none⟩ = some (.int .i64 x.high) := hOw.fact hx (by omega) rfl
     have y2 : wr.cell? ⟨fb, b * 6 + 2, none⟩ = some (.int .i64 y.low) := hOw.fact hy (by omega) rfl
     have y3 : wr.cell? ⟨fb, b * 6 + 3, none⟩ = some (.int .i64 y.high) := hOw.fact hy (by omega) rfl
     have HX := Lib.hid hx; clear hx
     have HY := Lib.hid hy; clear hy
     have HPJ := Lib.hid hp; clear hp hpc
     have HOW := Lib.hid hOw; clear hOw
     have hfl := HOW.out.lt
     have hjP : (j : Int) < (P.length : Int) := by omega
     go_upto_region 5 with (fail)
     generalize hWa : World.alloc _ _ = Wa
     obtain ⟨hba, hxa⟩ := bx1' hWa
     have q0 : Wa.cell? ⟨wr.heap.size, 0, none⟩ = some (.int .i64 a) := (cell_of_row Wa _ 0 _ _ _ hxa).trans rfl
     have q1 : Wa.cell? ⟨wr.heap.size, 1, none⟩ = some (.int .i64 b) := (cell_of_row Wa _ 1 _ _ _ hxa).trans rfl
     have bc := fun o => (bcell hba).1 fb o hfl
     have x2' := (bc _).trans x2
     have x3' := (bc _).trans x3
     have y2' := (bc _).trans y2
     have y3' := (bc _).trans y3
     have d1' := ((bcell hba).1 w.heap.size 1 (by omega)).trans d1
     have HUa : Hid (Upd (fun k => k = fb) Z Wa) := updOn HU.out hba
     have HOa := Lib.hid (HOW.out.below hba)
     have ia : (a : Int) < (F.length : Int) := by omega
     have ib : (b : Int) < (F.length : Int) := by omega
     clear hWa hba hxa e0 e1 d1 x2 x3 y2 y3 bc
     refine wp_region_preN 11 (by simp) (by kernel_rfl) (by kernel_rfl) ?_
     simp only [List.take_succ_cons, List.take_zero, List.drop_succ_cons, List.drop_zero]
     repeat (go_big_quiet_step (fail))
     refine wpQuiet_nil ?_
     rintro _ ⟨mq, rfl⟩
     gi_wp2
     go_upto_region 6 with (fail)
     have HTA : Hid (∀ k, Calls Tryz.prog 64 #[.slice (some ⟨fb, 0, none⟩) F.length fc, .slice (some ⟨pb, po, none⟩) P.length pc] (Wa.drewN k) (fun e w' => e = .returned (.tuple #[]) ∧ Own w' 50 fb (factCells (sweep P T)) ∧ Upd (fun k => k = fb) Wa w')) := fun k => by
      have hu2 : Upd (fun k => k = fb) Wa (Wa.drewN k) := (Upd.refl _ _).drewN k
      have hud : Upd (fun k => k = fb ∧ False) Wa (Wa.drewN k) := (Upd.refl _ _).drewN k
      have h := tightenAll_any T fb fc P (some ⟨pb, po, none⟩) pc (Wa.drewN k) (HOa.out.keep hud (fun h => h.2)) (updAt (updAt HP.out (by omega) HUa.out HPN.out) (by omega) hud (fun _ _ _ h => h.2)) (fun p hp => by rw [hTl]; exact HIN.out p hp) HPN.out (by omega)
      rw [hTl] at h
      refine h.mono ?_
      rintro e w' ⟨h1, h2, h3⟩
      exact ⟨h1, h2, hu2.trans h3 (fun _ _ h => h)⟩
     have t1 : decide (y.low < x.low) = true ∨ (decide (y.low < x.low) = false ∧ decide (y.high < x.high) = true) ∨ (decide (y.low < x.low) = false ∧ decide (y.high < x.high) = false) := by
      cases decide (y.low < x.low) <;> cases decide (y.high < x.high) <;> simp
     rcases t1 with q2 | ⟨q2, q3⟩ | ⟨q2, q3⟩
     · refine wp_region_preN 19 (by simp) (by kernel_rfl) (by kernel_rfl) ?_
       simp only [List.take_succ_cons, List.take_zero, List.drop_succ_cons, List.drop_zero]
       repeat (go_big_quiet_step (fail))
       refine wpQuiet_nil ?_
       rintro _ ⟨mr, rfl⟩
       gi_wp2
       go_wp2_with (go_at_call 64; refine (HTA.out _).mono ?_; rintro e z ⟨rfl, hz1, hz2⟩; refine Hid.out ?_)
       refine Lib.hid ?_
       have HO2 := Lib.hid hz1
       have HU2 : Hid (Upd (fun k => k = fb) Z z) := HUa.out.trans hz2 (fun _ _ h => h)
       clear hz1 hz2
       go_wp2
       go_roundg (gap M m (sweep P T))
       case measure => rw [HGK.out]; exact sweep_gap (HSW.out.bounded HMm.out) (List.mem_of_getElem? HPJ.out) HX.out HY.out (.inl (of_decide_eq_true q2))
       case rel => exact ⟨sweep P T, rfl, HSW.out.trans (swept_sweep P T), .inr ⟨rfl, HO2.out⟩, HU2.out⟩
     · refine wp_region_preN 19 (by simp) (by kernel_rfl) (by kernel_rfl) ?_
       simp only [List.take_succ_cons, List.take_zero, List.drop_succ_cons, List.drop_zero]
       repeat (go_big_quiet_step (fail))
       refine wpQuiet_nil ?_
       rintro _ ⟨mr, rfl⟩
       gi_wp2
       go_wp2_with (go_at_call 64; refine (HTA.out _).mono ?_; rintro e z ⟨rfl, hz1, hz2⟩; refine Hid.out ?_)
       refine Lib.hid ?_
       have HO2 := Lib.hid hz1
       have HU2 : Hid (Upd (fun k => k = fb) Z z) := HUa.out.trans hz2 (fun _ _ h => h)
       clear hz1 hz2
       go_wp2
       go_roundg (gap M m (sweep P T))
       case measure => rw [HGK.out]; exact sweep_gap (HSW.out.bounded HMm.out) (List.mem_of_getElem? HPJ.out) HX.out HY.out (.inr (of_decide_eq_true q3))
       case rel => exact ⟨sweep P T, rfl, HSW.out.trans (swept_sweep P T), .inr ⟨rfl, HO2.out⟩, HU2.out⟩
     · refine wp_region_preN 19 (by simp) (by kernel_rfl) (by kernel_rfl) ?_
       simp only [List.take_succ_cons, List.take_zero, List.drop_succ_cons, List.drop_zero]
       repeat (go_big_quiet_step (fail))
       refine wpQuiet_nil ?_
       rintro _ ⟨mr, rfl⟩
       gi_wp2
       have HC2 : Hid (∀ (i : Nat) (p : Nat × Nat), i < j + 1 → P[i]? = some p → ∀ x y, T[p.1]? = some x → T[p.2]? = some y → x.low ≤ y.low ∧ x.high ≤ y.high) := fun i p hi hp x' y' hx' hy' => by
        by_cases hij : i = j
        · subst hij
          rw [HPJ.out] at hp
          cases hp
          rw [HX.out] at hx'
          rw [HY.out] at hy'
          cases hx'
          cases hy'
          have h2 := of_decide_eq_false q2
          have h3 := of_decide_eq_false q3
          omega
        · exact HC.out i p (by omega) hp x' y' hx' hy'
       go_wp2
       go_roundg (P.length - (j + 1))
       case measure => rw [HG2.out]; omega
       case rel => exact ⟨j + 1, rfl, by omega, by go_num, .inr ⟨rfl, HOa.out.keep ((Upd.refl (fun _ => False) Wa).drewN _) (fun h => h)⟩, HUa.out.drewN _, HC2⟩
   · obtain rfl : j = P.length := by omega
     have d1 := (updCell (o := 1) HU.out (by omega) (by omega)).trans c1
     have HT : Hid (Tight F T O) := by
      rw [← HPP.out] at HSW HC
      exact HSW.out.tight HD.out HK.out (fun p hp x y hx hy => by
       obtain ⟨i, hi⟩ := List.mem_iff_getElem?.1 hp
       exact HC.out i p (List.getElem?_eq_some_iff.1 hi).1 hi x y hx hy)
     clear HC HSW
     go_wp2
     go_loopg [56] F.length (fun g3 v56 wq => ∃ i : Nat, g3 = F.length - i ∧ i ≤ F.length ∧ v56 = .int .i64 i ∧ Hid (OwnF wq A fb T) ∧ Hid (Upd (fun k => k = fb) Z wq) ∧ Hid (∀ (q : Nat) (x : KFact), q < i → T[q]? = some x → x.low ≤ x.high))
     case atStart => exact ⟨0, rfl, Nat.zero_le _, rfl, HO, HU, fun q x h => absurd h (Nat.not_lt_zero _)⟩
     case round =>
      clear HO HU d1
      obtain ⟨i, hg3, hi, rfl, HO, HU, HC⟩ := hrel
      have HG3 := Lib.hid hg3; clear hg3
      by_cases hil : i < F.length
      · obtain ⟨hA, hOw⟩ := HO.out.form (i := i) (by omega)
        subst hA
        obtain ⟨⟨re, ac, lo, hi2, fi, se⟩, hx⟩ : ∃ x, T[i]? = some x := ⟨T[i]'(by omega), List.getElem?_eq_getElem (by omega)⟩
        have x0 : wr.cell? ⟨fb, i * 6, none⟩ = some (.int .i64 re) := hOw.fact (j := 0) hx (by omega) rfl
        have x1 : wr.cell? ⟨fb, i * 6 + 1, none⟩ = some (.int .i64 ac) := hOw.fact hx (by omega) rfl
        have x2 : wr.cell? ⟨fb, i * 6 + 2, none⟩ = some (.int .i64 lo) := hOw.fact hx (by omega) rfl
        have x3 : wr.cell? ⟨fb, i * 6 + 3, none⟩ = some (.int .i64 hi2) := hOw.fact hx (by omega) rfl
        have x4 : wr.cell? ⟨fb, i * 6 + 4, none⟩ = some (.int .i64 fi) := hOw.fact hx (by omega) rfl
        have x5 : wr.cell? ⟨fb, i * 6 + 5, none⟩ = some (.bool se) := hOw.fact hx (by omega) rfl
        have HX := Lib.hid hx; clear hx
        have iF : (i : Int) < (F.length : Int) := by omega
        go_upto_region 12 with (fail)
        generalize hWa : World.alloc _ _ = Wa
        obtain ⟨hba, hxa⟩ := bx1' hWa
        have q2 : Wa.cell? ⟨wr.heap.size, 2, none⟩ = some (.int .i64 lo) := (cell_of_row Wa _ 2 _ _ _ hxa).trans rfl
        have q3 : Wa.cell? ⟨wr.heap.size, 3, none⟩ = some (.int .i64 hi2) := (cell_of_row Wa _ 3 _ _ _ hxa).trans rfl
        have HUa : Hid (Upd (fun k => k = fb) Z Wa) := updOn HU.out hba
        have HOa := Lib.hid (hOw.below hba)
        clear hWa hba hxa x0 x1 x2 x3 x4 x5 hOw
        cases hq : decide (hi2 < lo) with
        | true =>
         have HQ : Hid (allFine T = false) := by
          cases hf : allFine T with
          | false => rfl
          | true =>
           have h1 := allFine_iff.1 hf _ (List.mem_of_getElem? HX.out)
           have h2 := of_decide_eq_true hq
           simp only at h1
           omega
         go_wp2
         try rw [Exit.noGoto_ret]
         go_ret
         exact ⟨T, by rw [HQ.out]; rfl, HT.out, .inr ⟨rfl, HOa.out⟩, ((updOn (Upd.refl (fun k => k = fb) w) HZ.out).trans HUa.out (fun _ _ h => h))⟩
        | false =>
         have HC2 : Hid (∀ (q : Nat) (x : KFact), q < i + 1 → T[q]? = some x → x.low ≤ x.high) := fun q x hq2 hx => by
          by_cases e : q = i
          · subst e
            rw [HX.out] at hx
            cases hx
            have h2 := of_decide_eq_false hq
            show lo ≤ hi2
            omega
          · exact HC.out q x (by omega) hx
         go_wp2
         go_roundg (F.length - (i + 1))
         case measure => rw [HG3.out]; omega
         case rel => exact ⟨i + 1, rfl, by omega, by go_num, .inr ⟨rfl, HOa.out⟩, HUa, HC2⟩
      · obtain rfl : i = F.length := by omega
        have HQ : Hid (allFine T = true) := allFine_iff.2 (fun x hx => by
         obtain ⟨q, hq⟩ := List.mem_iff_getElem?.1 hx
         exact HC.out q x (by have := (List.getElem?_eq_some_iff.1 hq).1; omega) hq)
        go_wp2
        try rw [Exit.noGoto_ret]
        go_ret
        exact ⟨T, by rw [HQ.out]; rfl, HT.out, HO.out, ((updOn (Upd.refl (fun k => k = fb) w) HZ.out).trans HU.out (fun _ _ h => h))⟩
end Go.Proofs.YtahhdjeclbagnaaGreatDoor
