/-
  MStart; Grow
-/
import Derived.Test.YtaielhafpmjkaaaGreatDoorQ31
import Derived.Test.YtaielhafpmjkaaaGreatDoorQ29
namespace Go.Proofs.YtaielhafpmjkaaaGreatDoor
open Go.RowKit Go.Shelf
theorem stored2 {z : World} {b : Nat} {x0 x1 y0 y1 : Value} (h0 : z.cell? ⟨b, 0, none⟩ = some y0) (h1 : z.cell? ⟨b, 1, none⟩ = some y1) {W : World} (hW : W = (z.setCell ⟨b, 0, none⟩ x0).setCell ⟨b, 1, none⟩ x1) :
 W.cell? ⟨b, 0, none⟩ = some x0 ∧ W.cell? ⟨b, 1, none⟩ = some x1 ∧ Upd (fun k => k = b) z W := by
 subst hW
 have ne : ∀ i j : Nat, i ≠ j → (⟨b, i, none⟩ : Addr) ≠ ⟨b, j, none⟩ := fun i j h e => h (by injection e)
 have a1 : (z.setCell ⟨b, 0, none⟩ x0).cell? ⟨b, 1, none⟩ = some y1 := by rw [World.cell?_setCell_other _ _ _ _ (by first | exact ne 0 1 (by decide) | exact ne 1 0 (by decide))]; exact h1
 refine ⟨?_, ?_, ((Upd.refl (fun k => k = b) z).setCell (.inl rfl) _).setCell (.inl rfl) _⟩
 · rw [World.cell?_setCell_other _ _ _ _ (by first | exact ne 0 1 (by decide) | exact ne 1 0 (by decide))]
   exact World.cell?_setCell_same' _ _ _ (by rw [h0]; rfl)
 · exact World.cell?_setCell_same' _ _ _ (by rw [a1]; rfl)
theorem CloPost.ret {B : Nat} {C : KCon} {p : Int} {l : List KState} {w : World} {e : Ending} {w' : World} (h : CloPost B C p l w e w') : ∃ (r : List KState) (A : Option Addr) (c : Nat) (er : Int), e = .returned (.tuple #[.slice A r.length c, .int .i64 er]) ∧ Below w.heap.size w w' ∧
 ((er = 0 ∧ StatesN B w' ⟨A, c⟩ r ∧ IsClo C p l r) ∨ (er = 3 ∧ A = none ∧ c = 0 ∧ r = [] ∧ TooMany C p l)) := by
 obtain ⟨hb, ⟨r, A, c, rfl, hs, hc⟩ | ⟨rfl, hm⟩⟩ := h
 · exact ⟨r, A, c, 0, rfl, hb, .inl ⟨rfl, hs, hc⟩⟩
 · exact ⟨[], none, 0, 3, rfl, hb, .inr ⟨rfl, rfl, rfl, rfl, hm⟩⟩
def BelPost (p : Int) (Ok : List KState → Prop) (Er : Int → Prop) (w : World) (e : Ending) (w' : World) : Prop :=
 ∃ (q : Int) (A : Option Addr) (c : Nat) (r : List KState) (er : Int), e = .returned (.tuple #[.agg #[.int .i64 q, .slice A r.length c], .int .i64 er]) ∧ Below w.heap.size w w' ∧
  ((er = 0 ∧ q = p ∧ StatesN w.heap.size w' ⟨A, c⟩ r ∧ Ok r) ∨ (er ≠ 0 ∧ q = 0 ∧ A = none ∧ c = 0 ∧ r = [] ∧ Er er))
theorem BelPost.mono {p : Int} {Ok Ok' : List KState → Prop} {Er Er' : Int → Prop} {w : World} {e : Ending} {w' : World} (h : BelPost p Ok Er w e w') (h1 : ∀ r, Ok r → Ok' r) (h2 : ∀ x, Er x → Er' x) : BelPost p Ok' Er' w e w' := by
 obtain ⟨q, A, c, r, er, he, hb, h3⟩ := h
 refine ⟨q, A, c, r, er, he, hb, ?_⟩
 rcases h3 with ⟨a, b, c, d⟩ | ⟨a, b, c, d, e, f⟩
 · exact .inl ⟨a, b, c, h1 r d⟩
 · exact .inr ⟨a, b, c, d, e, h2 _ f⟩
theorem StatesN.one {B : Nat} {w : World} {b : Nat} {s : KState} {t : TV} (hb : w.heap[b]? = some (.cells (t.cells s).toArray 43 (0, 0))) (hs : StateAt w t s) (hn : NewT B t) (hB : B ≤ b) : StatesN B w ⟨some ⟨b, 0, none⟩, 1⟩ [s] := by
 refine ⟨newSV_mk hB, [t], rfl, ⟨⟨by simp [TV.cells, KState.cells], ?_, fun _ => ⟨_, rfl, fun j u hj => ?_⟩⟩, (fun h => by cases h), Nat.le_refl _, by unfold maxLen; simp⟩, fun i x y hx hy => ?_⟩
 · intro u hu
   simp only [List.zip_cons_cons, List.zip_nil_right, List.flatMap_cons, List.flatMap_nil, List.append_nil, TV.cells, KState.cells, List.mem_cons, List.not_mem_nil, or_false] at hu
   rcases hu with rfl | rfl | rfl | rfl <;> rfl
 · rw [Addr.add_lit, cell_of_row _ _ (0 + j) _ _ _ hb]
   simpa using hj
 · cases i with
   | zero =>
    simp at hx hy
    rw [← hx, ← hy]
    exact ⟨hs, hn⟩
   | succ i => simp at hx
def KCon.startOk (C : KCon) (p : Int) : Prop := C.valid = true ∧ 0 ≤ p ∧ p < C.parties
def StartEr (C : KCon) (p er : Int) : Prop := (er = 1 ∧ ¬ C.startOk p) ∨ (er = 3 ∧ C.startOk p ∧ TooMany C p [C.first])
set_option maxRecDepth 100000 in
set_option maxHeartbeats 4000000 in
theorem mstart_any (v : CV) (C : KCon) (p : Int) (w : World) (hC : ConAt w v C) (hT : Tab w) : Calls Tryz.prog 33 #[v.val C, .int .i64 p] w (BelPost p (fun r => C.startOk p ∧ IsClo C p [C.first] r) (StartEr C p) w) := by
 obtain ⟨⟨vhA, vhc⟩, ⟨vuA, vuc⟩, ⟨vaA, vac⟩, ⟨vkA, vkc⟩, ⟨voA, voc⟩⟩ := v
 have HC := Lib.hid hC; clear hC
 have HT := Lib.hid hT; clear hT
 simp only [CV.val, CV.cells]
 go_enter Tryz.func33, Tryz.ntmps33
 go_upto_region 1 with (fail)
 generalize hW0 : World.alloc _ _ = W0
 obtain ⟨HB, hh0, hh1⟩ := bx2 hW0
 clear hW0
 obtain ⟨k0_0, k0_1, k0_2, k0_3, k0_4, k0_5, k0_6⟩ := kc7 hh0
 clear hh0
 obtain ⟨k1_0, k1_1⟩ := kc2 hh1
 have f1_0 := fcell (i := 0) hh1
 have f1_1 := fcell (i := 1) hh1
 have hl1 := lt_of_heap hh1
 clear hh1
 change Code.wp _ _ _ _ (Bl.val (⟨W0, Below.refl _ _⟩ : Bl W0))
 generalize (⟨W0, Below.refl _ _⟩ : Bl W0) = s0
 have hbe : ∀ z : Bl W0, Calls Tryz.prog 51 #[.agg #[.int .i64 C.parties, .slice vhA C.holders.length vhc, .slice vuA C.units.length vuc, .slice vaA C.acts.length vac, .slice vkA C.clauses.length vkc, .int .i64 C.days, .slice voA C.off.length voc]] z.val (StatePost (cond C.valid 0 1) C.first z.val) := fun z => begin_any (⟨⟨vhA, vhc⟩, ⟨vuA, vuc⟩, ⟨vaA, vac⟩, ⟨vkA, vkc⟩, ⟨voA, voc⟩⟩ : CV) C z.val (HC.out.below (Below.step HB.out z.prop))
 have hrb := HB.out.size
 cases q1 : C.valid with
 | false =>
  have HBE : Hid (∀ z : Bl W0, Calls Tryz.prog 51 #[.agg #[.int .i64 C.parties, .slice vhA C.holders.length vhc, .slice vuA C.units.length vuc, .slice vaA C.acts.length vac, .slice vkA C.clauses.length vkc, .int .i64 C.days, .slice voA C.off.length voc]] z.val (RetB (.tuple #[.agg #[.int .i64 0, .slice none 0 0, .slice none 0 0, .slice none 0 0], .int .i64 1]) z.val)) := fun z => by
   have h := hbe z
   rw [q1] at h
   refine h.mono ?_
   rintro e w' ⟨hb, ⟨h0, _⟩ | ⟨_, rfl⟩⟩
   · cases h0
   · exact ⟨rfl, hb⟩
  clear hbe
  go_wp2_with (go_at_call 51; refine (HBE.out _).mono ?_; rintro e z ⟨rfl, hz⟩; obtain ⟨z, rfl⟩ := Bl.on hz; clear hz; refine Hid.out ?_)
  refine Lib.hid ?_
  have c0 := k1_0 z
  have c1 := k1_1 z
  have u0 := f1_0 z
  have u1 := f1_1 z
  have hp1 := z.prop
  generalize z.val = Z at hp1 c0 c1 u0 u1 ⊢
  go_upto_region 2 with (fail)
  obtain ⟨Wa, HWa⟩ : ∃ Wa, Hid (Wa = Z.alloc (.cells #[.int .i64 0, .slice none 0 0, .slice none 0 0, .slice none 0 0] 43)) := ⟨_, rfl⟩
  rw [← HWa.out]
  have hba : Below Z.heap.size Z Wa := by rw [HWa.out]; exact Below.alloc' (Below.refl _ _) _
  have hpa : Below W0.heap.size W0 Wa := Below.step hp1 hba
  have lz : w.heap.size + 1 < Z.heap.size := by have := hp1.size; omega
  have a0 := ((bcell hba).1 _ _ lz).trans c0
  have a1 := ((bcell hba).1 _ _ lz).trans c1
  have b0 := ((bcell hba).2 _ _ lz).trans u0
  have b1 := ((bcell hba).2 _ _ lz).trans u1
  clear c0 c1 u0 u1
  go_wp2
  obtain ⟨Wf, HWf⟩ : ∃ Wf, Hid (Wf = (Wa.setCell ⟨w.heap.size + 1, 0, none⟩ (.int .i64 0)).setCell ⟨w.heap.size + 1, 1, none⟩ (.slice none 0 0)) := ⟨_, rfl⟩
  rw [← HWf.out]
  obtain ⟨g0, g1, hUf⟩ := stored2 a0 a1 HWf.out
  refine bodyPost_ret (v := .tuple #[.agg #[.int .i64 0, .slice none 0 0], .int .i64 1]) (by simp [results, Tryz.results33, go_sem, g0, g1]) rfl ⟨0, none, 0, [], 1, rfl, ?_, .inr ⟨by decide, rfl, rfl, rfl, rfl, .inl ⟨rfl, fun h => by have h1 := h.1; rw [q1] at h1; cases h1⟩⟩⟩
  exact (HB.out.trans (hpa.mono HB.out.size)).trans (hUf.below (by have := hpa.size; omega) (fun k hk => by omega))
 | true =>
  have HBE : Hid (∀ z : Bl W0, Calls Tryz.prog 51 #[.agg #[.int .i64 C.parties, .slice vhA C.holders.length vhc, .slice vuA C.units.length vuc, .slice vaA C.acts.length vac, .slice vkA C.clauses.length vkc, .int .i64 C.days, .slice voA C.off.length voc]] z.val (StateRet C.first z.val)) := fun z => by
   have h := hbe z
   rw [q1] at h
   exact h.mono (fun _ _ h => h.ret)
  clear hbe
  have HFO := Lib.hid (first_ok q1)
  generalize hs1 : C.first = s1 at HBE HFO
  have HS1 := Lib.hid hs1; clear hs1
  go_wp2_with (go_at_call 51; refine (HBE.out _).mono ?_; rintro e z ⟨thA, thc, tuA, tuc, tmA, tmc, rfl, hst, hnt, hz⟩; obtain ⟨z, rfl⟩ := Bl.on hz; refine Hid.out ?_)
  refine Lib.hid ?_
  have c0 := k1_0 z
  have c1 := k1_1 z
  have u0 := f1_0 z
  have u1 := f1_1 z
  have hp1 := z.prop
  have HST := Lib.hid hst; clear hst
  have HNT := Lib.hid (hnt.mono s0.prop.size); clear hnt hz
  have x0 := k0_0 z
  have x1 := k0_1 z
  have x2 := k0_2 z
  have x3 := k0_3 z
  have x4 := k0_4 z
  have x5 := k0_5 z
  have x6 := k0_6 z
  generalize z.val = Z at hp1 c0 c1 u0 u1 HST x0 x1 x2 x3 x4 x5 x6 ⊢
  go_upto_region 2 with (fail)
  obtain ⟨Wa, HWa⟩ : ∃ Wa, Hid (Wa = Z.alloc (.cells #[.int .i64 s1.day, .slice thA s1.holders.length thc, .slice tuA s1.used.length tuc, .slice tmA s1.marks.length tmc] 43)) := ⟨_, rfl⟩
  rw [← HWa.out]
  have hba : Below Z.heap.size Z Wa := by rw [HWa.out]; exact Below.alloc' (Below.refl _ _) _
  have hpa : Below W0.heap.size W0 Wa := Below.step hp1 hba
  have hax : Wa.heap[Z.heap.size]? = some (.cells #[.int .i64 s1.day, .slice thA s1.holders.length thc, .slice tuA s1.used.length tuc, .slice tmA s1.marks.length tmc] 43 (0, 0)) := by rw [HWa.out]; exact heap_alloc_new Z _
  have lz : w.heap.size + 1 < Z.heap.size := by have := hp1.size; omega
  have lw : w.heap.size < Z.heap.size := by omega
  have a0 := ((bcell hba).1 _ _ lz).trans c0
  have a1 := ((bcell hba).1 _ _ lz).trans c1
  have b0 := ((bcell hba).2 _ _ lz).trans u0
  have b1 := ((bcell hba).2 _ _ lz).trans u1
  have y0 := ((bcell hba).1 _ _ lw).trans x0
  have y1 := ((bcell hba).1 _ _ lw).trans x1
  have y2 := ((bcell hba).1 _ _ lw).trans x2
  have y3 := ((bcell hba).1 _ _ lw).trans x3
  have y4 := ((bcell hba).1 _ _ lw).trans x4
  have y5 := ((bcell hba).1 _ _ lw).trans x5
  have y6 := ((bcell hba).1 _ _ lw).trans x6
  have d0 : Wa.cell? ⟨Z.heap.size, 0, none⟩ = some (.int .i64 s1.day) := (cell_of_row Wa _ 0 _ _ _ hax).trans rfl
  have d1 : Wa.cell? ⟨Z.heap.size, 1, none⟩ = some (.slice thA s1.holders.length thc) := (cell_of_row Wa _ 1 _ _ _ hax).trans rfl
  have d2 : Wa.cell? ⟨Z.heap.size, 2, none⟩ = some (.slice tuA s1.used.length tuc) := (cell_of_row Wa _ 2 _ _ _ hax).trans rfl
  have d3 : Wa.cell? ⟨Z.heap.size, 3, none⟩ = some (.slice tmA s1.marks.length tmc) := (cell_of_row Wa _ 3 _ _ _ hax).trans rfl
  have HSA := Lib.hid (HST.out.below hba)
  clear c0 c1 u0 u1 x0 x1 x2 x3 x4 x5 x6 hax hba
  cases q2 : decide (p < 0) with
  | true =>
   go_wp2
   obtain ⟨Wf, HWf⟩ : ∃ Wf, Hid (Wf = (Wa.setCell ⟨w.heap.size + 1, 0, none⟩ (.int .i64 0)).setCell ⟨w.heap.size + 1, 1, none⟩ (.slice none 0 0)) := ⟨_, rfl⟩
   rw [← HWf.out]
   obtain ⟨g0, g1, hUf⟩ := stored2 a0 a1 HWf.out
   refine bodyPost_ret (v := .tuple #[.agg #[.int .i64 0, .slice none 0 0], .int .i64 1]) (by simp [results, Tryz.results33, go_sem, g0, g1]) rfl ⟨0, none, 0, [], 1, rfl, ?_, .inr ⟨by decide, rfl, rfl, rfl, rfl, .inl ⟨rfl, fun h => by have h1 := h.2.1; rw [decide_eq_true_eq] at q2; omega⟩⟩⟩
   exact (HB.out.trans (hpa.mono HB.out.size)).trans (hUf.below (by have := hpa.size; omega) (fun k hk => by omega))
  | false =>
   cases q3 : decide (C.parties ≤ p) with
   | true =>
    go_wp2
    obtain ⟨Wf, HWf⟩ : ∃ Wf, Hid (Wf = (Wa.setCell ⟨w.heap.size + 1, 0, none⟩ (.int .i64 0)).setCell ⟨w.heap.size + 1, 1, none⟩ (.slice none 0 0)) := ⟨_, rfl⟩
    rw [← HWf.out]
    obtain ⟨g0, g1, hUf⟩ := stored2 a0 a1 HWf.out
    refine bodyPost_ret (v := .tuple #[.agg #[.int .i64 0, .slice none 0 0], .int .i64 1]) (by simp [results, Tryz.results33, go_sem, g0, g1]) rfl ⟨0, none, 0, [], 1, rfl, ?_, .inr ⟨by decide, rfl, rfl, rfl, rfl, .inl ⟨rfl, fun h => by have h1 := h.2.2; rw [decide_eq_true_eq] at q3; omega⟩⟩⟩
    exact (HB.out.trans (hpa.mono HB.out.size)).trans (hUf.below (by have := hpa.size; omega) (fun k hk => by omega))
   | false =>
    have HPO : Hid (C.startOk p) := ⟨q1, by rw [decide_eq_false_iff_not] at q2; omega, by rw [decide_eq_false_iff_not] at q3; omega⟩
    have hsl := heap_alloc_new Wa (.cells #[.int .i64 s1.day, .slice thA s1.holders.length thc, .slice tuA s1.used.length tuc, .slice tmA s1.marks.length tmc] 43)
    have HCL : Hid (Calls Tryz.prog 56 #[.agg #[.int .i64 C.parties, .slice vhA C.holders.length vhc, .slice vuA C.units.length vuc, .slice vaA C.acts.length vac, .slice vkA C.clauses.length vkc, .int .i64 C.days, .slice voA C.off.length voc], .int .i64 p, .slice (some ⟨Wa.heap.size, 0, none⟩) 1 1] (Wa.alloc (.cells #[.int .i64 s1.day, .slice thA s1.holders.length thc, .slice tuA s1.used.length tuc, .slice tmA s1.marks.length tmc] 43)) _) :=
     closure_any (⟨⟨vhA, vhc⟩, ⟨vuA, vuc⟩, ⟨vaA, vac⟩, ⟨vkA, vkc⟩, ⟨voA, voc⟩⟩ : CV) C p ⟨some ⟨Wa.heap.size, 0, none⟩, 1⟩ [s1] (Wa.alloc (.cells #[.int .i64 s1.day, .slice thA s1.holders.length thc, .slice tuA s1.used.length tuc, .slice tmA s1.marks.length tmc] 43)) (HC.out.below (Below.step HB.out (Below.alloc' hpa _))) (StatesN.one (B := W0.heap.size) (t := ⟨⟨thA, thc⟩, ⟨tuA, tuc⟩, ⟨tmA, tmc⟩⟩) hsl (HSA.out.below (Below.alloc' (Below.refl _ _) _)) HNT.out hpa.size) (by have := hpa.size; simp; omega) (fun s hs => by rw [List.mem_singleton] at hs; rw [hs]; exact HFO.out) (HT.out.below (Below.step HB.out (Below.alloc' hpa _))) (by simp)
    clear hsl
    go_wp2_with (go_at_call 56; refine (HCL.out.mono (fun _ _ h => h.ret)).mono ?_; rintro e z1 ⟨r, A, c, er, rfl, hb1, hcase⟩; refine Hid.out ?_)
    refine Lib.hid ?_
    have hpz : Below W0.heap.size W0 z1 := Below.step (Below.alloc' hpa _) hb1
    have lz2 : w.heap.size + 1 < (Wa.alloc (.cells #[.int .i64 s1.day, .slice thA s1.holders.length thc, .slice tuA s1.used.length tuc, .slice tmA s1.marks.length tmc] 43)).heap.size := by have := hpa.size; simp; omega
    have e0 := ((bcell hb1).1 _ 0 lz2).trans (((bcell (Below.alloc' (Below.refl Wa.heap.size Wa) (.cells #[.int .i64 s1.day, .slice thA s1.holders.length thc, .slice tuA s1.used.length tuc, .slice tmA s1.marks.length tmc] 43))).1 _ _ (by have := hpa.size; omega)).trans a0)
    have e1 := ((bcell hb1).1 _ 1 lz2).trans (((bcell (Below.alloc' (Below.refl Wa.heap.size Wa) (.cells #[.int .i64 s1.day, .slice thA s1.holders.length thc, .slice tuA s1.used.length tuc, .slice tmA s1.marks.length tmc] 43))).1 _ _ (by have := hpa.size; omega)).trans a1)
    have h0 := ((bcell hb1).2 _ 0 lz2).trans (((bcell (Below.alloc' (Below.refl Wa.heap.size Wa) (.cells #[.int .i64 s1.day, .slice thA s1.holders.length thc, .slice tuA s1.used.length tuc, .slice tmA s1.marks.length tmc] 43))).2 _ _ (by have := hpa.size; omega)).trans b0)
    have h1 := ((bcell hb1).2 _ 1 lz2).trans (((bcell (Below.alloc' (Below.refl Wa.heap.size Wa) (.cells #[.int .i64 s1.day, .slice thA s1.holders.length thc, .slice tuA s1.used.length tuc, .slice tmA s1.marks.length tmc] 43))).2 _ _ (by have := hpa.size; omega)).trans b1)
    clear hb1 lz2 a0 a1 b0 b1 y0 y1 y2 y3 y4 y5 y6 d0 d1 d2 d3
    rcases hcase with ⟨rfl, hsn, hclo⟩ | ⟨rfl, rfl, rfl, rfl, hmany⟩
    · have HSN := Lib.hid hsn; clear hsn
      have HCLO := Lib.hid hclo; clear hclo
      go_wp2
      obtain ⟨Wf, HWf⟩ : ∃ Wf, Hid (Wf = (z1.setCell ⟨w.heap.size + 1, 0, none⟩ (.int .i64 p)).setCell ⟨w.heap.size + 1, 1, none⟩ (.slice A r.length c)) := ⟨_, rfl⟩
      rw [← HWf.out]
      obtain ⟨g0, g1, hUf⟩ := stored2 e0 e1 HWf.out
      refine bodyPost_ret (v := .tuple #[.agg #[.int .i64 p, .slice A r.length c], .int .i64 0]) (by simp [results, Tryz.results33, go_sem, g0, g1]) rfl ⟨p, A, c, r, 0, rfl, ?_, .inl ⟨rfl, rfl, ?_, HPO.out, ?_⟩⟩
      · exact (HB.out.trans (hpz.mono HB.out.size)).trans (hUf.below (by have := hpz.size; omega) (fun k hk => by omega))
      · exact (HSN.out.updLow hUf (fun k hk => by omega)).mono hrb
      · rw [HS1.out]; exact HCLO.out
    · have HMN := Lib.hid hmany; clear hmany
      go_wp2
      obtain ⟨Wf, HWf⟩ : ∃ Wf, Hid (Wf = (z1.setCell ⟨w.heap.size + 1, 0, none⟩ (.int .i64 0)).setCell ⟨w.heap.size + 1, 1, none⟩ (.slice none 0 0)) := ⟨_, rfl⟩
      rw [← HWf.out]
      obtain ⟨g0, g1, hUf⟩ := stored2 e0 e1 HWf.out
      refine bodyPost_ret (v := .tuple #[.agg #[.int .i64 0, .slice none 0 0], .int .i64 3]) (by simp [results, Tryz.results33, go_sem, g0, g1]) rfl ⟨0, none, 0, [], 3, rfl, ?_, .inr ⟨by decide, rfl, rfl, rfl, rfl, .inr ⟨rfl, HPO.out, ?_⟩⟩⟩
      · exact (HB.out.trans (hpz.mono HB.out.size)).trans (hUf.below (by have := hpz.size; omega) (fun k hk => by omega))
      · rw [HS1.out]; exact HMN.out
end Go.Proofs.YtaielhafpmjkaaaGreatDoor
namespace Go.Proofs.YtaielhafpmjkaaaGreatDoor
open Go.RowKit Go.Shelf
def Sep (o : Option Nat) (w : World) (t : TV) (s : KState) : Prop := ∀ w', Upd (fun k => some k = o) w w' → StateAt w' t s
theorem Sep.at {o : Option Nat} {w : World} {t : TV} {s : KState} (h : Sep o w t s) : StateAt w t s := h w (Upd.refl _ _)
theorem Sep.below {o : Option Nat} {w w' : World} {t : TV} {s : KState} (h : Sep o w t s) (hb : Below w.heap.size w w') : Sep o w' t s :=
 fun _ hu => h _ (((Upd.refl _ w).on hb).trans hu (fun _ _ h => h))
def StatesOwn (B : Nat) (w : World) (v : Value) (R : List KState) : Prop :=
 ∃ ts : List TV, ts.length = R.length ∧ w.ownsRow B 43 4 v R.length ((R.zip ts).flatMap (fun p => TV.cells p.2 p.1)) ∧ ∀ (i : Nat) (s : KState) (t : TV), R[i]? = some s → ts[i]? = some t → Sep v.ownBlock w t s ∧ NewT B t
theorem StatesOwn.nil (B : Nat) (w : World) : StatesOwn B w (.slice none 0 0) [] := ⟨[], rfl, World.ownsRow_nil _ _ _ _, fun i s t hs => by simp at hs⟩
theorem StatesOwn.below {B : Nat} {w w' : World} {v : Value} {R : List KState} (h : StatesOwn B w v R) (hb : Below w.heap.size w w') : StatesOwn B w' v R := by
 obtain ⟨ts, h1, h2, h3⟩ := h
 exact ⟨ts, h1, ownsRow_below h2 hb, fun i s t hs ht => ⟨(h3 i s t hs ht).1.below hb, (h3 i s t hs ht).2⟩⟩
theorem StatesOwn.ret {B : Nat} {w : World} {v : Value} {R : List KState} (h : StatesOwn B w v R) : ∃ A c, v = .slice A R.length c ∧ StatesN B w ⟨A, c⟩ R := by
 obtain ⟨ts, h1, h2, h3⟩ := h
 obtain ⟨A, c, rfl, hAt⟩ := ownsRow_at h2 (cells_one _)
 exact ⟨A, c, rfl, fun b off e => (h2.lt b (by simp only at e; rw [e]; rfl)).1, ts, h1, hAt, fun i s t hs ht => ⟨(h3 i s t hs ht).1.at, (h3 i s t hs ht).2⟩⟩
theorem StatesOwn.sep {B : Nat} {w z z' : World} {v : Value} {R : List KState} (h : StatesOwn B w v R) (hz : w.heap.size ≤ z.heap.size) {t : TV} {s : KState} (hs : StateAt z' t s) (hn : NewT z.heap.size t) : Sep v.ownBlock z' t s := by
 obtain ⟨ts, h1, h2, h3⟩ := h
 exact fun w' hu => hs.updLow hn hu (fun k hk => by have := (h2.lt k hk.symm).2; omega)
set_option maxRecDepth 100000 in
theorem wpList_append_state {W : World} {ops : Array Oper} {rest : List Oper} {o : Oper} {a : Act} {Q : Exit → Act → World → Prop}
 (hg : o.guard = none) (so x : Operand) (hop : o.op = Op.call { callee := Callee.builtin Builtin.append, args := #[so, x], argTypes := #[28, 28] })
 (B : Nat) (v : Value) (R : List KState) (hs : a.eval so = v) (hown : StatesOwn B W v R) (t : TV) (s : KState) (hst : Sep v.ownBlock W t s) (hnt : NewT B t) (arr : Array Value) (harr : arr = (t.cells s).toArray)
 (hx : a.eval x = .slice (some ⟨W.heap.size, 0, none⟩) 1 1) (hlen : R.length ≤ 1000000) (hBW : B ≤ W.heap.size)
 (hK : ∀ A' c' w', StatesOwn B w' (.slice A' (R ++ [s]).length c') (R ++ [s]) → Below B W w' → wpList Tryz.prog ops Q rest (a.put o.dst (.slice A' (R ++ [s]).length c')) w') :
 wpList Tryz.prog ops Q (o :: rest) a (W.alloc (.cells arr 43)) := by
 subst harr
 obtain ⟨ts, h1, h2, h3⟩ := hown
 obtain ⟨is, hsi, hsz, hss, hsb⟩ := info_parts' (P := Tryz.prog) (t := 43) (z := some zeroState) (s := 4) (b := 80) (by kernel_rfl)
 have hba : Below W.heap.size W (W.alloc (.cells (t.cells s).toArray 43)) := Below.alloc' (Below.refl _ _) _
 refine wpList_append_own_at _ hg so x 28 hop B 43 is zeroState 4 80 Tryz.underlying28 hsi hsz hss hsb rfl (by decide) v R.length _ hs (World.ownsRow.alloc h2 _) ⟨W.heap.size, 0, none⟩ 1 1 (t.cells s) hx rfl
  (fun j u hj => by
   rw [Addr.add_lit, cell_of_row _ _ (0 + j) _ _ _ (heap_alloc_new W _)]
   simpa using hj) (by
   intro u hu
   simp only [TV.cells, KState.cells, List.mem_cons, List.not_mem_nil, or_false] at hu
   rcases hu with rfl | rfl | rfl | rfl <;> rfl) (by unfold maxLen; omega) (by omega) (by simp; omega) ?_
 intro v' w' hown' hgrow _ hblk
 have hupd : Upd (fun k => some k = v.ownBlock) (W.alloc (.cells (t.cells s).toArray 43)) w' := ⟨hgrow.os, hgrow.tape, hgrow.output, hgrow.size, fun k hk hn => hgrow.block k hk hn⟩
 have hsep : ∀ (t' : TV) (s' : KState), Sep v.ownBlock W t' s' → Sep v'.ownBlock w' t' s' := fun t' s' h w'' hu =>
  (h.below hba) w'' (hupd.trans hu (fun i hi e => by
   rcases hblk with hblk | hblk
   · rw [← hblk]; exact e
   · rw [hblk] at e; injection e with e; omega))
 suffices hso : StatesOwn B w' v' (R ++ [s]) ∧ Below B W w' by
  obtain ⟨A', c', e, _⟩ := hso.1.ret
  subst e
  exact hK A' c' w' hso.1 hso.2
 refine ⟨⟨ts ++ [t], by simp [h1], ?_, fun i x' t' hx' ht' => ?_⟩, ?_⟩
 · rw [List.zip_append h1.symm, List.flatMap_append, List.length_append, List.length_singleton]
   simpa using hown'
 · by_cases hi : i < R.length
   · rw [List.getElem?_append_left hi] at hx'
     rw [List.getElem?_append_left (by rw [h1]; exact hi)] at ht'
     exact ⟨hsep _ _ (h3 i x' t' hx' ht').1, (h3 i x' t' hx' ht').2⟩
   · rw [List.getElem?_append_right (by omega)] at hx'
     rw [List.getElem?_append_right (by rw [h1]; omega), h1] at ht'
     cases hk : i - R.length with
     | zero =>
      rw [hk] at hx' ht'
      simp at hx' ht'
      rw [← hx', ← ht']
      exact ⟨hsep _ _ hst, hnt⟩
     | succ q => rw [hk] at hx'; simp at hx'
 · exact ((Below.refl _ W).alloc hBW _).grown hgrow (by simp; omega) (fun k hk => (h2.lt k hk).1)
def KCon.stepOk (C : KCon) (x : Int) : Prop := x = -1 ∨ (0 ≤ x ∧ x < C.acts.length)
def fits (C : KCon) (p x : Int) (s : KState) : Bool := (!decide (C.days ≤ s.day)) && ((x == -1) || C.sees s p x)
def nextsTo (C : KCon) (p x : Int) (b : List KState) (k : Nat) : List KState := ((b.take k).filter (fits C p x)).map (fun s => C.next s x)
def KCon.nexts (C : KCon) (p x : Int) (b : List KState) : List KState := (b.filter (fits C p x)).map (fun s => C.next s x)
theorem nextsTo_succ {C : KCon} {p x : Int} {b : List KState} {k : Nat} {s : KState} (h : b[k]? = some s) : nextsTo C p x b (k + 1) = nextsTo C p x b k ++ cond (fits C p x s) [C.next s x] [] := by
 unfold nextsTo
 rw [take_snoc' h, List.filter_append, List.map_append]
 cases hf : fits C p x s <;> simp [hf]
theorem nextsTo_all (C : KCon) (p x : Int) (b : List KState) : nextsTo C p x b b.length = C.nexts p x b := by
 unfold nextsTo KCon.nexts
 rw [List.take_length]
theorem nextsTo_len (C : KCon) (p x : Int) (b : List KState) (k : Nat) : (nextsTo C p x b k).length ≤ b.length := by
 unfold nextsTo
 rw [List.length_map]
 exact Nat.le_trans (List.length_filter_le _ _) (by rw [List.length_take]; omega)
theorem step_fits {C : KCon} {s : KState} {x : Int} (hx : C.stepOk x) (hO : StateOk C s) (hd : s.day < C.days) : C.stepErr s x = 0 ∧ StateOk C (C.next s x) := by
 rcases hx with rfl | ⟨h0, h1⟩
 · refine ⟨?_, ?_⟩
   · have h1 : C.okState s = true := (okState_iff C s).2 hO
     have h4 : (s.day == C.days) = false := by simp; omega
     have h3 : decide ((C.acts.length : Int) ≤ -1) = false := by simp; omega
     simp only [KCon.stepErr, h1, h3, h4, Bool.not_true, cond_false]
     rfl
   · exact tick_ok hO hd
 · obtain ⟨i, rfl⟩ : ∃ i : Nat, x = i := ⟨x.toNat, by omega⟩
   have hi : i < C.acts.length := by omega
   have ha := List.getElem?_eq_getElem hi
   refine ⟨stepErr_act hO hd hi, ?_⟩
   rw [next_act ha]
   exact act_ok hO ha
theorem nextsTo_ok {C : KCon} {p x : Int} {b : List KState} {k : Nat} (hx : C.stepOk x) (hb : ∀ s ∈ b, StateOk C s) : ∀ s ∈ nextsTo C p x b k, StateOk C s := by
 intro s hs
 unfold nextsTo at hs
 obtain ⟨s0, h0, rfl⟩ := List.mem_map.1 hs
 obtain ⟨h1, h2⟩ := List.mem_filter.1 h0
 unfold fits at h2
 simp only [Bool.and_eq_true, Bool.not_eq_true', decide_eq_false_iff_not] at h2
 exact (step_fits hx (hb s0 (List.mem_of_mem_take h1)) (by omega)).2
def AfterOk (C : KCon) (p x : Int) (b r : List KState) : Prop := C.stepOk x ∧ C.nexts p x b ≠ [] ∧ IsClo C p (C.nexts p x b) r
def AfterEr (C : KCon) (p x : Int) (b : List KState) (er : Int) : Prop := (er = 1 ∧ ¬ C.stepOk x) ∨ (C.stepOk x ∧ ((er = 13 ∧ C.nexts p x b = []) ∨ (er = 3 ∧ TooMany C p (C.nexts p x b))))
end Go.Proofs.YtaielhafpmjkaaaGreatDoor
