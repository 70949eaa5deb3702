/-
  Few; Exam
-/
import Derived.Test.YtaielhafpmjkaaaGreatDoorQ37
namespace Go.Proofs.YtaielhafpmjkaaaGreatDoor
open Go.RowKit Go.Shelf
def SomeB (w : World) (e : Ending) (w' : World) : Prop := ∃ x : Bool, e = .returned (.bool x) ∧ Below w.heap.size w w'
set_option maxRecDepth 100000 in
set_option maxHeartbeats 1000000 in
theorem small_any (v : CV) (C : KCon) (n : Int) (w : World) (hC : ConAt w v C) : Calls Tryz.prog 57 #[v.val C, .int .i64 n] w (SomeB w) := by
 obtain ⟨⟨vhA, vhc⟩, ⟨vuA, vuc⟩, ⟨vaA, vac⟩, ⟨vkA, vkc⟩, ⟨voA, voc⟩⟩ := v
 have hx1 : C.holders.length ≤ 9223372036854775807 := by have h1 := hC.holders.2.2.1; have h2 := hC.holders.2.2.2; unfold maxLen at h2; omega
 have hx2 : C.units.length ≤ 9223372036854775807 := by have h1 := hC.units.2.2.1; have h2 := hC.units.2.2.2; unfold maxLen at h2; omega
 have hx3 : C.acts.length ≤ 9223372036854775807 := by have h1 := hC.acts.2.2.1; have h2 := hC.acts.2.2.2; unfold maxLen at h2; omega
 have hx6 : C.off.length ≤ 9223372036854775807 := by have h1 := hC.off.2.2.1; have h2 := hC.off.2.2.2; unfold maxLen at h2; omega
 have hx4 : C.clauses.length ≤ 9223372036854775807 := by
  obtain ⟨ss, g1, g2, g3⟩ := hC.clauses
  have h1 := g2.2.2.1; have h2 := g2.2.2.2; unfold maxLen at h2; omega
 have HC := Lib.hid hC; clear hC
 simp only [CV.val, CV.cells]
 go_enter Tryz.func57, Tryz.ntmps57
 go_upto_region 1 with (fail)
 obtain ⟨W0, HW0⟩ : ∃ W0, Hid (W0 = w.alloc (.cells #[.int .i64 C.parties, .slice vhA C.holders.length vhc, .slice vuA C.units.length vuc, .slice vaA C.acts.length vac, .slice vkA C.clauses.length vkc, .int .i64 C.days, .slice voA C.off.length voc] 27)) := ⟨_, rfl⟩
 have hh0 : W0.heap[w.heap.size]? = some (.cells #[.int .i64 C.parties, .slice vhA C.holders.length vhc, .slice vuA C.units.length vuc, .slice vaA C.acts.length vac, .slice vkA C.clauses.length vkc, .int .i64 C.days, .slice voA C.off.length voc] 27 (0, 0)) := by rw [HW0.out]; exact heap_alloc_new w (.cells #[.int .i64 C.parties, .slice vhA C.holders.length vhc, .slice vuA C.units.length vuc, .slice vaA C.acts.length vac, .slice vkA C.clauses.length vkc, .int .i64 C.days, .slice voA C.off.length voc] 27)
 have k0_0 : ∀ z : Bl W0, z.val.cell? ⟨w.heap.size, 0, none⟩ = some (.int .i64 C.parties) := fun z => z.cell ((cell_of_row W0 _ 0 _ _ _ hh0).trans rfl)
 have k0_1 : ∀ z : Bl W0, z.val.cell? ⟨w.heap.size, 1, none⟩ = some (.slice vhA C.holders.length vhc) := fun z => z.cell ((cell_of_row W0 _ 1 _ _ _ hh0).trans rfl)
 have k0_2 : ∀ z : Bl W0, z.val.cell? ⟨w.heap.size, 2, none⟩ = some (.slice vuA C.units.length vuc) := fun z => z.cell ((cell_of_row W0 _ 2 _ _ _ hh0).trans rfl)
 have k0_3 : ∀ z : Bl W0, z.val.cell? ⟨w.heap.size, 3, none⟩ = some (.slice vaA C.acts.length vac) := fun z => z.cell ((cell_of_row W0 _ 3 _ _ _ hh0).trans rfl)
 have k0_4 : ∀ z : Bl W0, z.val.cell? ⟨w.heap.size, 4, none⟩ = some (.slice vkA C.clauses.length vkc) := fun z => z.cell ((cell_of_row W0 _ 4 _ _ _ hh0).trans rfl)
 have k0_5 : ∀ z : Bl W0, z.val.cell? ⟨w.heap.size, 5, none⟩ = some (.int .i64 C.days) := fun z => z.cell ((cell_of_row W0 _ 5 _ _ _ hh0).trans rfl)
 have k0_6 : ∀ z : Bl W0, z.val.cell? ⟨w.heap.size, 6, none⟩ = some (.slice voA C.off.length voc) := fun z => z.cell ((cell_of_row W0 _ 6 _ _ _ hh0).trans rfl)
 clear hh0
 have HB : Hid (Below w.heap.size w W0) := by show Below _ _ _; rw [HW0.out]; exact Below.alloc' (Below.refl _ _) _
 rw [← HW0.out]
 change Code.wp _ _ _ _ (Bl.val (⟨W0, Below.refl _ _⟩ : Bl W0))
 generalize (⟨W0, Below.refl _ _⟩ : Bl W0) = s0
 cases q0 : decide (20 < (C.holders.length : Int)) with
 | true =>
  go_wp2
  go_ret
  exact ⟨false, rfl, Below.step HB.out (Bl.prop _)⟩
 | false =>
  cases q1 : decide (30 < (C.units.length : Int)) with
  | true =>
   go_wp2
   go_ret
   exact ⟨false, rfl, Below.step HB.out (Bl.prop _)⟩
  | false =>
   cases q2 : decide (70 < (C.acts.length : Int)) with
   | true =>
    go_wp2
    go_ret
    exact ⟨false, rfl, Below.step HB.out (Bl.prop _)⟩
   | false =>
    cases q3 : decide (n < (C.clauses.length : Int)) with
    | true =>
     go_wp2
     go_ret
     exact ⟨false, rfl, Below.step HB.out (Bl.prop _)⟩
    | false =>
     cases q4 : decide (100 < (C.off.length : Int)) with
     | true =>
      go_wp2
      go_ret
      exact ⟨false, rfl, Below.step HB.out (Bl.prop _)⟩
     | false =>
      go_wp2
      go_loopg [5] C.clauses.length (fun gk v5 wr => ∃ (j : Nat) (z : Bl W0), gk = C.clauses.length - j ∧ j ≤ C.clauses.length ∧ v5 = .int .i64 j ∧ wr = z.val)
      case atStart => exact ⟨0, _, rfl, Nat.zero_le _, rfl, rfl⟩
      case round =>
       obtain ⟨j, z, hgk, hj, rfl, rfl⟩ := hrel
       have HGK := Lib.hid hgk; clear hgk
       by_cases hlt : j < C.clauses.length
       · obtain ⟨k, hk⟩ : ∃ k, C.clauses[j]? = some k := ⟨_, List.getElem?_eq_getElem hlt⟩
         obtain ⟨kb, koff, st, hKA, hkb, hkc, hsa⟩ := (HC.out.below (Below.step HB.out z.prop)).clause hk
         simp only at hKA
         subst hKA
         have hsl : k.start.length ≤ 9223372036854775807 := by have h1 := hsa.2.2.1; have h2 := hsa.2.2.2; unfold maxLen at h2; omega
         have x4 : z.val.cell? ⟨kb, koff + j * 16 + 4, none⟩ = some (.slice st.A k.start.length st.c) := hkc z.val (Below.refl _ _) 4 (by omega)
         clear hkc hsa hk
         have j0 : (0 : Int) ≤ (j : Int) := by omega
         have j1 : (j : Int) < (C.clauses.length : Int) := by omega
         cases qs : decide (20 < (k.start.length : Int)) with
         | true =>
          go_wp2
          go_ret
          exact ⟨false, rfl, Below.step HB.out (Bl.prop _)⟩
         | false =>
          go_wp2
          go_roundg (C.clauses.length - (j + 1))
          case measure => rw [HGK.out]; omega
          case rel => exact ⟨j + 1, z, rfl, by omega, by go_num, rfl⟩
       · obtain rfl : j = C.clauses.length := by omega
         go_wp2
         go_ret
         exact ⟨true, rfl, Below.step HB.out (Bl.prop _)⟩
set_option maxRecDepth 100000 in
set_option maxHeartbeats 1000000 in
theorem tame_any (v : CV) (C : KCon) (w : World) (hC : ConAt w v C) : Calls Tryz.prog 34 #[v.val C] w (SomeB w) := by
 obtain ⟨⟨vhA, vhc⟩, ⟨vuA, vuc⟩, ⟨vaA, vac⟩, ⟨vkA, vkc⟩, ⟨voA, voc⟩⟩ := v
 have hx1 : C.holders.length ≤ 9223372036854775807 := by have h1 := hC.holders.2.2.1; have h2 := hC.holders.2.2.2; unfold maxLen at h2; omega
 have hx2 : C.units.length ≤ 9223372036854775807 := by have h1 := hC.units.2.2.1; have h2 := hC.units.2.2.2; unfold maxLen at h2; omega
 have hx3 : C.acts.length ≤ 9223372036854775807 := by have h1 := hC.acts.2.2.1; have h2 := hC.acts.2.2.2; unfold maxLen at h2; omega
 have hx6 : C.off.length ≤ 9223372036854775807 := by have h1 := hC.off.2.2.1; have h2 := hC.off.2.2.2; unfold maxLen at h2; omega
 have hx4 : C.clauses.length ≤ 9223372036854775807 := by
  obtain ⟨ss, g1, g2, g3⟩ := hC.clauses
  have h1 := g2.2.2.1; have h2 := g2.2.2.2; unfold maxLen at h2; omega
 have HC := Lib.hid hC; clear hC
 simp only [CV.val, CV.cells]
 go_enter Tryz.func34, Tryz.ntmps34
 go_upto_region 1 with (fail)
 obtain ⟨W0, HW0⟩ : ∃ W0, Hid (W0 = w.alloc (.cells #[.int .i64 C.parties, .slice vhA C.holders.length vhc, .slice vuA C.units.length vuc, .slice vaA C.acts.length vac, .slice vkA C.clauses.length vkc, .int .i64 C.days, .slice voA C.off.length voc] 27)) := ⟨_, rfl⟩
 have hh0 : W0.heap[w.heap.size]? = some (.cells #[.int .i64 C.parties, .slice vhA C.holders.length vhc, .slice vuA C.units.length vuc, .slice vaA C.acts.length vac, .slice vkA C.clauses.length vkc, .int .i64 C.days, .slice voA C.off.length voc] 27 (0, 0)) := by rw [HW0.out]; exact heap_alloc_new w (.cells #[.int .i64 C.parties, .slice vhA C.holders.length vhc, .slice vuA C.units.length vuc, .slice vaA C.acts.length vac, .slice vkA C.clauses.length vkc, .int .i64 C.days, .slice voA C.off.length voc] 27)
 have k0_0 : ∀ z : Bl W0, z.val.cell? ⟨w.heap.size, 0, none⟩ = some (.int .i64 C.parties) := fun z => z.cell ((cell_of_row W0 _ 0 _ _ _ hh0).trans rfl)
 have k0_1 : ∀ z : Bl W0, z.val.cell? ⟨w.heap.size, 1, none⟩ = some (.slice vhA C.holders.length vhc) := fun z => z.cell ((cell_of_row W0 _ 1 _ _ _ hh0).trans rfl)
 have k0_2 : ∀ z : Bl W0, z.val.cell? ⟨w.heap.size, 2, none⟩ = some (.slice vuA C.units.length vuc) := fun z => z.cell ((cell_of_row W0 _ 2 _ _ _ hh0).trans rfl)
 have k0_3 : ∀ z : Bl W0, z.val.cell? ⟨w.heap.size, 3, none⟩ = some (.slice vaA C.acts.length vac) := fun z => z.cell ((cell_of_row W0 _ 3 _ _ _ hh0).trans rfl)
 have k0_4 : ∀ z : Bl W0, z.val.cell? ⟨w.heap.size, 4, none⟩ = some (.slice vkA C.clauses.length vkc) := fun z => z.cell ((cell_of_row W0 _ 4 _ _ _ hh0).trans rfl)
 have k0_5 : ∀ z : Bl W0, z.val.cell? ⟨w.heap.size, 5, none⟩ = some (.int .i64 C.days) := fun z => z.cell ((cell_of_row W0 _ 5 _ _ _ hh0).trans rfl)
 have k0_6 : ∀ z : Bl W0, z.val.cell? ⟨w.heap.size, 6, none⟩ = some (.slice voA C.off.length voc) := fun z => z.cell ((cell_of_row W0 _ 6 _ _ _ hh0).trans rfl)
 clear hh0
 have HB : Hid (Below w.heap.size w W0) := by show Below _ _ _; rw [HW0.out]; exact Below.alloc' (Below.refl _ _) _
 rw [← HW0.out]
 change Code.wp _ _ _ _ (Bl.val (⟨W0, Below.refl _ _⟩ : Bl W0))
 generalize (⟨W0, Below.refl _ _⟩ : Bl W0) = s0
 have HS : Hid (∀ z : Bl W0, Calls Tryz.prog 57 #[.agg #[.int .i64 C.parties, .slice vhA C.holders.length vhc, .slice vuA C.units.length vuc, .slice vaA C.acts.length vac, .slice vkA C.clauses.length vkc, .int .i64 C.days, .slice voA C.off.length voc], .int .i64 6] z.val (SomeB z.val)) := fun z => small_any (⟨⟨vhA, vhc⟩, ⟨vuA, vuc⟩, ⟨vaA, vac⟩, ⟨vkA, vkc⟩, ⟨voA, voc⟩⟩ : CV) C 6 z.val (HC.out.below (Below.step HB.out z.prop))
 go_wp2_with (go_at_call 57; refine (HS.out _).mono ?_; rintro e z ⟨x, rfl, hz⟩; obtain ⟨z, rfl⟩ := Bl.on hz; clear hz; refine Hid.out ?_)
 refine Lib.hid ?_
 cases x with
 | false =>
  go_wp2
  go_ret
  exact ⟨_, rfl, Below.step HB.out (Bl.prop _)⟩
 | true =>
  cases q1 : decide ((C.acts.length : Int) ≤ 8) with
  | false =>
   go_wp2
   go_ret
   exact ⟨_, rfl, Below.step HB.out (Bl.prop _)⟩
  | true =>
   go_wp2
   go_ret
   exact ⟨_, rfl, Below.step HB.out (Bl.prop _)⟩
set_option maxRecDepth 100000 in
set_option maxHeartbeats 1000000 in
theorem few_any (v : CV) (C : KCon) (lv : SV) (l : List Int) (p : Int) (sv : SV) (b : List KState) (w : World) (hC : ConAt w v C) (hV : At w 1 lv.A l.length lv.c (ints l)) (hS : StatesAt w sv b) : Calls Tryz.prog 12 #[v.val C, .slice lv.A l.length lv.c, .agg #[.int .i64 p, .slice sv.A b.length sv.c]] w (SomeB w) := by
 obtain ⟨⟨vhA, vhc⟩, ⟨vuA, vuc⟩, ⟨vaA, vac⟩, ⟨vkA, vkc⟩, ⟨voA, voc⟩⟩ := v
 obtain ⟨bA, bc⟩ := sv
 obtain ⟨lA, lc⟩ := lv
 have hlx : l.length ≤ 9223372036854775807 := by have h1 := hV.2.2.1; have h2 := hV.2.2.2; unfold maxLen at h2; omega
 obtain ⟨hbx1, hbx2⟩ := hS.len
 simp only at hbx1 hbx2
 have HC := Lib.hid hC; clear hC
 have HS := Lib.hid hS; clear hS
 clear hV
 simp only [CV.val, CV.cells]
 go_enter Tryz.func12, Tryz.ntmps12
 go_upto_region 1 with (fail)
 obtain ⟨W0, HW0⟩ : ∃ W0, Hid (W0 = (w.alloc (.cells #[.int .i64 C.parties, .slice vhA C.holders.length vhc, .slice vuA C.units.length vuc, .slice vaA C.acts.length vac, .slice vkA C.clauses.length vkc, .int .i64 C.days, .slice voA C.off.length voc] 27)).alloc (.cells #[.int .i64 p, .slice bA b.length bc] 30)) := ⟨_, rfl⟩
 have hh0 : W0.heap[w.heap.size]? = some (.cells #[.int .i64 C.parties, .slice vhA C.holders.length vhc, .slice vuA C.units.length vuc, .slice vaA C.acts.length vac, .slice vkA C.clauses.length vkc, .int .i64 C.days, .slice voA C.off.length voc] 27 (0, 0)) := by rw [HW0.out]; exact (Below.heap_alloc (w.alloc (.cells #[.int .i64 C.parties, .slice vhA C.holders.length vhc, .slice vuA C.units.length vuc, .slice vaA C.acts.length vac, .slice vkA C.clauses.length vkc, .int .i64 C.days, .slice voA C.off.length voc] 27)) _ (w.heap.size) (by simp)).trans (heap_alloc_new w (.cells #[.int .i64 C.parties, .slice vhA C.holders.length vhc, .slice vuA C.units.length vuc, .slice vaA C.acts.length vac, .slice vkA C.clauses.length vkc, .int .i64 C.days, .slice voA C.off.length voc] 27))
 have k0_0 : ∀ z : Bl W0, z.val.cell? ⟨w.heap.size, 0, none⟩ = some (.int .i64 C.parties) := fun z => z.cell ((cell_of_row W0 _ 0 _ _ _ hh0).trans rfl)
 have k0_1 : ∀ z : Bl W0, z.val.cell? ⟨w.heap.size, 1, none⟩ = some (.slice vhA C.holders.length vhc) := fun z => z.cell ((cell_of_row W0 _ 1 _ _ _ hh0).trans rfl)
 have k0_2 : ∀ z : Bl W0, z.val.cell? ⟨w.heap.size, 2, none⟩ = some (.slice vuA C.units.length vuc) := fun z => z.cell ((cell_of_row W0 _ 2 _ _ _ hh0).trans rfl)
 have k0_3 : ∀ z : Bl W0, z.val.cell? ⟨w.heap.size, 3, none⟩ = some (.slice vaA C.acts.length vac) := fun z => z.cell ((cell_of_row W0 _ 3 _ _ _ hh0).trans rfl)
 have k0_4 : ∀ z : Bl W0, z.val.cell? ⟨w.heap.size, 4, none⟩ = some (.slice vkA C.clauses.length vkc) := fun z => z.cell ((cell_of_row W0 _ 4 _ _ _ hh0).trans rfl)
 have k0_5 : ∀ z : Bl W0, z.val.cell? ⟨w.heap.size, 5, none⟩ = some (.int .i64 C.days) := fun z => z.cell ((cell_of_row W0 _ 5 _ _ _ hh0).trans rfl)
 have k0_6 : ∀ z : Bl W0, z.val.cell? ⟨w.heap.size, 6, none⟩ = some (.slice voA C.off.length voc) := fun z => z.cell ((cell_of_row W0 _ 6 _ _ _ hh0).trans rfl)
 clear hh0
 have hh1 : W0.heap[w.heap.size + 1]? = some (.cells #[.int .i64 p, .slice bA b.length bc] 30 (0, 0)) := by rw [HW0.out]; exact (by have h := heap_alloc_new (w.alloc (.cells #[.int .i64 C.parties, .slice vhA C.holders.length vhc, .slice vuA C.units.length vuc, .slice vaA C.acts.length vac, .slice vkA C.clauses.length vkc, .int .i64 C.days, .slice voA C.off.length voc] 27)) (.cells #[.int .i64 p, .slice bA b.length bc] 30); simp only [World.size_alloc] at h; exact h)
 have k1_0 : ∀ z : Bl W0, z.val.cell? ⟨w.heap.size + 1, 0, none⟩ = some (.int .i64 p) := fun z => z.cell ((cell_of_row W0 _ 0 _ _ _ hh1).trans rfl)
 have k1_1 : ∀ z : Bl W0, z.val.cell? ⟨w.heap.size + 1, 1, none⟩ = some (.slice bA b.length bc) := fun z => z.cell ((cell_of_row W0 _ 1 _ _ _ hh1).trans rfl)
 clear hh1
 have HB : Hid (Below w.heap.size w W0) := by show Below _ _ _; rw [HW0.out]; exact Below.alloc' (Below.alloc' (Below.refl _ _) _) _
 rw [← HW0.out]
 change Code.wp _ _ _ _ (Bl.val (⟨W0, Below.refl _ _⟩ : Bl W0))
 generalize (⟨W0, Below.refl _ _⟩ : Bl W0) = s0
 have HTM : Hid (∀ z : Bl W0, Calls Tryz.prog 34 #[.agg #[.int .i64 C.parties, .slice vhA C.holders.length vhc, .slice vuA C.units.length vuc, .slice vaA C.acts.length vac, .slice vkA C.clauses.length vkc, .int .i64 C.days, .slice voA C.off.length voc]] z.val (SomeB z.val)) := fun z => tame_any (⟨⟨vhA, vhc⟩, ⟨vuA, vuc⟩, ⟨vaA, vac⟩, ⟨vkA, vkc⟩, ⟨voA, voc⟩⟩ : CV) C z.val (HC.out.below (Below.step HB.out z.prop))
 go_wp2_with (go_at_call 34; refine (HTM.out _).mono ?_; rintro e z ⟨x, rfl, hz⟩; obtain ⟨z, rfl⟩ := Bl.on hz; clear hz; refine Hid.out ?_)
 refine Lib.hid ?_
 cases x with
 | false =>
  go_wp2
  go_ret
  exact ⟨_, rfl, Below.step HB.out (Bl.prop _)⟩
 | true =>
  cases q1 : decide (30 < (l.length : Int)) with
  | true =>
   go_wp2
   go_ret
   exact ⟨_, rfl, Below.step HB.out (Bl.prop _)⟩
  | false =>
   cases q2 : decide (40 < (b.length : Int)) with
   | true =>
    go_wp2
    go_ret
    exact ⟨_, rfl, Below.step HB.out (Bl.prop _)⟩
   | false =>
    have hw1 : w.heap.size + 1 < W0.heap.size := by rw [HW0.out]; simp
    go_wp2
    go_loopg [7] b.length (fun gk v7 wr => ∃ (j : Nat) (z : Bl W0), gk = b.length - j ∧ j ≤ b.length ∧ v7 = .int .i64 j ∧ wr = z.val)
    case atStart => exact ⟨0, _, rfl, Nat.zero_le _, rfl, rfl⟩
    case round =>
     obtain ⟨j, z, hgk, hj, rfl, rfl⟩ := hrel
     have HGK := Lib.hid hgk; clear hgk
     by_cases hlt : j < b.length
     · obtain ⟨s, hs⟩ : ∃ s, b[j]? = some s := ⟨_, List.getElem?_eq_getElem hlt⟩
       obtain ⟨lb, loff, hA, hlb, hst⟩ := (HS.out.below (Below.step HB.out z.prop)).form (by omega)
       simp only at hA
       subst hA
       obtain ⟨⟨⟨thA, thc⟩, ⟨tuA, tuc⟩, ⟨tmA, tmc⟩⟩, hstate, hcell⟩ := hst j s hs
       have hcl := hcell z.val (Below.refl _ _)
       have c0 : z.val.cell? ⟨lb, loff + j * 4, none⟩ = some (.int .i64 s.day) := hcl 0 (by omega)
       have c1 : z.val.cell? ⟨lb, loff + j * 4 + 1, none⟩ = some (.slice thA s.holders.length thc) := hcl 1 (by omega)
       have c2 : z.val.cell? ⟨lb, loff + j * 4 + 2, none⟩ = some (.slice tuA s.used.length tuc) := hcl 2 (by omega)
       have c3 : z.val.cell? ⟨lb, loff + j * 4 + 3, none⟩ = some (.slice tmA s.marks.length tmc) := hcl 3 (by omega)
       have y1 : s.holders.length ≤ 9223372036854775807 := by have h1 := hstate.holders.2.2.1; have h2 := hstate.holders.2.2.2; unfold maxLen at h2; omega
       have y2 : s.used.length ≤ 9223372036854775807 := by have h1 := hstate.used.2.2.1; have h2 := hstate.used.2.2.2; unfold maxLen at h2; omega
       have y3 : s.marks.length ≤ 9223372036854775807 := by have h1 := hstate.marks.2.2.1; have h2 := hstate.marks.2.2.2; unfold maxLen at h2; omega
       clear hcl hcell hst hstate hs
       have j0 : (0 : Int) ≤ (j : Int) := by omega
       have j1 : (j : Int) < (b.length : Int) := by omega
       go_upto_region 7 with (fail)
       obtain ⟨Wa, HWa⟩ : ∃ Wa, Hid (Wa = z.val.alloc (.cells #[.int .i64 s.day, .slice thA s.holders.length thc, .slice tuA s.used.length tuc, .slice tmA s.marks.length tmc] 43)) := ⟨_, rfl⟩
       rw [← HWa.out]
       have hba : Below z.val.heap.size z.val Wa := by rw [HWa.out]; exact Below.alloc' (Below.refl _ _) _
       have hax2 : Wa.heap[z.val.heap.size]? = some (.cells #[.int .i64 s.day, .slice thA s.holders.length thc, .slice tuA s.used.length tuc, .slice tmA s.marks.length tmc] 43 (0, 0)) := by rw [HWa.out]; exact heap_alloc_new z.val _
       have d1 : Wa.cell? ⟨z.val.heap.size, 1, none⟩ = some (.slice thA s.holders.length thc) := (cell_of_row Wa _ 1 _ _ _ hax2).trans rfl
       have d2 : Wa.cell? ⟨z.val.heap.size, 2, none⟩ = some (.slice tuA s.used.length tuc) := (cell_of_row Wa _ 2 _ _ _ hax2).trans rfl
       have d3 : Wa.cell? ⟨z.val.heap.size, 3, none⟩ = some (.slice tmA s.marks.length tmc) := (cell_of_row Wa _ 3 _ _ _ hax2).trans rfl
       have HPA : Hid (Below W0.heap.size W0 Wa) := Below.step z.prop hba
       clear c0 c1 c2 c3 hax2 hba
       cases r1 : decide (20 < (s.holders.length : Int)) with
       | true =>
        go_wp2
        go_ret
        exact ⟨_, rfl, Below.step HB.out HPA.out⟩
       | false =>
        cases r2 : decide (70 < (s.used.length : Int)) with
        | true =>
         go_wp2
         go_ret
         exact ⟨_, rfl, Below.step HB.out HPA.out⟩
        | false =>
         cases r3 : decide (20 < (s.marks.length : Int)) with
         | true =>
          go_wp2
          go_ret
          exact ⟨_, rfl, Below.step HB.out HPA.out⟩
         | false =>
          go_wp2
          go_roundg (b.length - (j + 1))
          case measure => rw [HGK.out]; omega
          case rel => exact ⟨j + 1, ⟨Wa, HPA.out⟩, rfl, by omega, by go_num, rfl⟩
     · obtain rfl : j = b.length := by omega
       go_wp2
       go_ret
       exact ⟨_, rfl, Below.step HB.out (Bl.prop _)⟩
end Go.Proofs.YtaielhafpmjkaaaGreatDoor
namespace Go.Proofs.YtaielhafpmjkaaaGreatDoor
open Go.RowKit Go.Shelf
def exK : KClause := ⟨1, 0, 0, 1, [], 1, 0, false, true, -1, -1, ⟨0, 1⟩, -1, -1, false⟩
def exC : KCon := ⟨3, [0, 1, 2], [], [⟨1, 0, 0, 1, -1, ⟨0, 1⟩⟩], [exK], 2, []⟩
def ConRet (C : KCon) (w : World) (e : Ending) (w' : World) : Prop :=
 ∃ (hA : Option Addr) (hc : Nat) (uA : Option Addr) (uc : Nat) (aA : Option Addr) (ac : Nat) (kA : Option Addr) (kc : Nat) (oA : Option Addr) (oc : Nat), e = .returned (CV.val ⟨⟨hA, hc⟩, ⟨uA, uc⟩, ⟨aA, ac⟩, ⟨kA, kc⟩, ⟨oA, oc⟩⟩ C) ∧ ConAt w' ⟨⟨hA, hc⟩, ⟨uA, uc⟩, ⟨aA, ac⟩, ⟨kA, kc⟩, ⟨oA, oc⟩⟩ C ∧ Below w.heap.size w w'
theorem at_nil (w : World) (size : Nat) : At w size none 0 0 [] := ⟨⟨by simp, (fun u hu => by cases hu), fun h => by omega⟩, fun _ => ⟨rfl, rfl⟩, Nat.le_refl _, Nat.zero_le _⟩
theorem at_row {w : World} {size n g : Nat} {xs : List Value} {t : TypeId} (h : w.heap[g]? = some (.cells xs.toArray t (0, 0))) (hl : xs.length = n * size) (h1 : ∀ u ∈ xs, u.oneCell' = true) (hn : n ≤ maxLen) : At w size (some ⟨g, 0, none⟩) n n xs := by
 refine ⟨⟨hl, h1, fun _ => ⟨_, rfl, fun j u hj => ?_⟩⟩, (fun h => by cases h), Nat.le_refl _, hn⟩
 rw [Addr.add_lit, cell_of_row _ _ (0 + j) _ _ _ h]
 simpa using hj
set_option maxRecDepth 100000 in
set_option maxHeartbeats 1000000 in
theorem example_any (w : World) : Calls Tryz.prog 32 #[] w (ConRet exC w) := by
 go_enter Tryz.func32, Tryz.ntmps32
 go_wp2
 obtain ⟨W0, HW0⟩ : ∃ W0, Hid (W0 = (((((w.alloc (.cells #[.int .i64 3, .slice (some ⟨w.heap.size + 1 + 1 + 1, 0, none⟩) 3 3, .slice none 0 0, .slice (some ⟨w.heap.size + 1 + 1 + 1 + 1, 0, none⟩) 1 1, .slice (some ⟨w.heap.size + 1 + 1 + 1 + 1 + 1, 0, none⟩) 1 1, .int .i64 2, .slice none 0 0] 27)).alloc (.cells #[.int .i64 0, .int .i64 1] 65)).alloc (.cells #[.int .i64 1, .int .i64 0, .int .i64 0, .int .i64 1, .slice none 0 0, .int .i64 1, .int .i64 0, .bool false, .bool true, .int .i64 (-1), .int .i64 (-1), .int .i64 0, .int .i64 1, .int .i64 (-1), .int .i64 (-1), .bool false] 90)).alloc (.cells #[.int .i64 0, .int .i64 1, .int .i64 2] 3)).alloc (.cells #[.int .i64 1, .int .i64 0, .int .i64 0, .int .i64 1, .int .i64 (-1), .int .i64 0, .int .i64 1] 67)).alloc (.cells #[.int .i64 1, .int .i64 0, .int .i64 0, .int .i64 1, .slice none 0 0, .int .i64 1, .int .i64 0, .bool false, .bool true, .int .i64 (-1), .int .i64 (-1), .int .i64 0, .int .i64 1, .int .i64 (-1), .int .i64 (-1), .bool false] 90)) := ⟨_, rfl⟩
 have hh0 : W0.heap[w.heap.size]? = some (.cells #[.int .i64 3, .slice (some ⟨w.heap.size + 1 + 1 + 1, 0, none⟩) 3 3, .slice none 0 0, .slice (some ⟨w.heap.size + 1 + 1 + 1 + 1, 0, none⟩) 1 1, .slice (some ⟨w.heap.size + 1 + 1 + 1 + 1 + 1, 0, none⟩) 1 1, .int .i64 2, .slice none 0 0] 27 (0, 0)) := by rw [HW0.out]; exact (Below.heap_alloc (((((w.alloc (.cells #[.int .i64 3, .slice (some ⟨w.heap.size + 1 + 1 + 1, 0, none⟩) 3 3, .slice none 0 0, .slice (some ⟨w.heap.size + 1 + 1 + 1 + 1, 0, none⟩) 1 1, .slice (some ⟨w.heap.size + 1 + 1 + 1 + 1 + 1, 0, none⟩) 1 1, .int .i64 2, .slice none 0 0] 27)).alloc (.cells #[.int .i64 0, .int .i64 1] 65)).alloc (.cells #[.int .i64 1, .int .i64 0, .int .i64 0, .int .i64 1, .slice none 0 0, .int .i64 1, .int .i64 0, .bool false, .bool true, .int .i64 (-1), .int .i64 (-1), .int .i64 0, .int .i64 1, .int .i64 (-1), .int .i64 (-1), .bool false] 90)).alloc (.cells #[.int .i64 0, .int .i64 1, .int .i64 2] 3)).alloc (.cells #[.int .i64 1, .int .i64 0, .int .i64 0, .int .i64 1, .int .i64 (-1), .int .i64 0, .int .i64 1] 67)) _ (w.heap.size) (by simp only [World.size_alloc]; omega)).trans ((Below.heap_alloc ((((w.alloc (.cells #[.int .i64 3, .slice (some ⟨w.heap.size + 1 + 1 + 1, 0, none⟩) 3 3, .slice none 0 0, .slice (some ⟨w.heap.size + 1 + 1 + 1 + 1, 0, none⟩) 1 1, .slice (some ⟨w.heap.size + 1 + 1 + 1 + 1 + 1, 0, none⟩) 1 1, .int .i64 2, .slice none 0 0] 27)).alloc (.cells #[.int .i64 0, .int .i64 1] 65)).alloc (.cells #[.int .i64 1, .int .i64 0, .int .i64 0, .int .i64 1, .slice none 0 0, .int .i64 1, .int .i64 0, .bool false, .bool true, .int .i64 (-1), .int .i64 (-1), .int .i64 0, .int .i64 1, .int .i64 (-1), .int .i64 (-1), .bool false] 90)).alloc (.cells #[.int .i64 0, .int .i64 1, .int .i64 2] 3)) _ (w.heap.size) (by simp only [World.size_alloc]; omega)).trans ((Below.heap_alloc (((w.alloc (.cells #[.int .i64 3, .slice (some ⟨w.heap.size + 1 + 1 + 1, 0, none⟩) 3 3, .slice none 0 0, .slice (some ⟨w.heap.size + 1 + 1 + 1 + 1, 0, none⟩) 1 1, .slice (some ⟨w.heap.size + 1 + 1 + 1 + 1 + 1, 0, none⟩) 1 1, .int .i64 2, .slice none 0 0] 27)).alloc (.cells #[.int .i64 0, .int .i64 1] 65)).alloc (.cells #[.int .i64 1, .int .i64 0, .int .i64 0, .int .i64 1, .slice none 0 0, .int .i64 1, .int .i64 0, .bool false, .bool true, .int .i64 (-1), .int .i64 (-1), .int .i64 0, .int .i64 1, .int .i64 (-1), .int .i64 (-1), .bool false] 90)) _ (w.heap.size) (by simp only [World.size_alloc]; omega)).trans ((Below.heap_alloc ((w.alloc (.cells #[.int .i64 3, .slice (some ⟨w.heap.size + 1 + 1 + 1, 0, none⟩) 3 3, .slice none 0 0, .slice (some ⟨w.heap.size + 1 + 1 + 1 + 1, 0, none⟩) 1 1, .slice (some ⟨w.heap.size + 1 + 1 + 1 + 1 + 1, 0, none⟩) 1 1, .int .i64 2, .slice none 0 0] 27)).alloc (.cells #[.int .i64 0, .int .i64 1] 65)) _ (w.heap.size) (by simp only [World.size_alloc]; omega)).trans ((Below.heap_alloc (w.alloc (.cells #[.int .i64 3, .slice (some ⟨w.heap.size + 1 + 1 + 1, 0, none⟩) 3 3, .slice none 0 0, .slice (some ⟨w.heap.size + 1 + 1 + 1 + 1, 0, none⟩) 1 1, .slice (some ⟨w.heap.size + 1 + 1 + 1 + 1 + 1, 0, none⟩) 1 1, .int .i64 2, .slice none 0 0] 27)) _ (w.heap.size) (by simp)).trans (heap_alloc_new w (.cells #[.int .i64 3, .slice (some ⟨w.heap.size + 1 + 1 + 1, 0, none⟩) 3 3, .slice none 0 0, .slice (some ⟨w.heap.size + 1 + 1 + 1 + 1, 0, none⟩) 1 1, .slice (some ⟨w.heap.size + 1 + 1 + 1 + 1 + 1, 0, none⟩) 1 1, .int .i64 2, .slice none 0 0] 27))))))
 have hh1 : W0.heap[w.heap.size + 1]? = some (.cells #[.int .i64 0, .int .i64 1] 65 (0, 0)) := by rw [HW0.out]; exact (Below.heap_alloc (((((w.alloc (.cells #[.int .i64 3, .slice (some ⟨w.heap.size + 1 + 1 + 1, 0, none⟩) 3 3, .slice none 0 0, .slice (some ⟨w.heap.size + 1 + 1 + 1 + 1, 0, none⟩) 1 1, .slice (some ⟨w.heap.size + 1 + 1 + 1 + 1 + 1, 0, none⟩) 1 1, .int .i64 2, .slice none 0 0] 27)).alloc (.cells #[.int .i64 0, .int .i64 1] 65)).alloc (.cells #[.int .i64 1, .int .i64 0, .int .i64 0, .int .i64 1, .slice none 0 0, .int .i64 1, .int .i64 0, .bool false, .bool true, .int .i64 (-1), .int .i64 (-1), .int .i64 0, .int .i64 1, .int .i64 (-1), .int .i64 (-1), .bool false] 90)).alloc (.cells #[.int .i64 0, .int .i64 1, .int .i64 2] 3)).alloc (.cells #[.int .i64 1, .int .i64 0, .int .i64 0, .int .i64 1, .int .i64 (-1), .int .i64 0, .int .i64 1] 67)) _ (w.heap.size + 1) (by simp only [World.size_alloc]; omega)).trans ((Below.heap_alloc ((((w.alloc (.cells #[.int .i64 3, .slice (some ⟨w.heap.size + 1 + 1 + 1, 0, none⟩) 3 3, .slice none 0 0, .slice (some ⟨w.heap.size + 1 + 1 + 1 + 1, 0, none⟩) 1 1, .slice (some ⟨w.heap.size + 1 + 1 + 1 + 1 + 1, 0, none⟩) 1 1, .int .i64 2, .slice none 0 0] 27)).alloc (.cells #[.int .i64 0, .int .i64 1] 65)).alloc (.cells #[.int .i64 1, .int .i64 0, .int .i64 0, .int .i64 1, .slice none 0 0, .int .i64 1, .int .i64 0, .bool false, .bool true, .int .i64 (-1), .int .i64 (-1), .int .i64 0, .int .i64 1, .int .i64 (-1), .int .i64 (-1), .bool false] 90)).alloc (.cells #[.int .i64 0, .int .i64 1, .int .i64 2] 3)) _ (w.heap.size + 1) (by simp only [World.size_alloc]; omega)).trans ((Below.heap_alloc (((w.alloc (.cells #[.int .i64 3, .slice (some ⟨w.heap.size + 1 + 1 + 1, 0, none⟩) 3 3, .slice none 0 0, .slice (some ⟨w.heap.size + 1 + 1 + 1 + 1, 0, none⟩) 1 1, .slice (some ⟨w.heap.size + 1 + 1 + 1 + 1 + 1, 0, none⟩) 1 1, .int .i64 2, .slice none 0 0] 27)).alloc (.cells #[.int .i64 0, .int .i64 1] 65)).alloc (.cells #[.int .i64 1, .int .i64 0, .int .i64 0, .int .i64 1, .slice none 0 0, .int .i64 1, .int .i64 0, .bool false, .bool true, .int .i64 (-1), .int .i64 (-1), .int .i64 0, .int .i64 1, .int .i64 (-1), .int .i64 (-1), .bool false] 90)) _ (w.heap.size + 1) (by simp only [World.size_alloc]; omega)).trans ((Below.heap_alloc ((w.alloc (.cells #[.int .i64 3, .slice (some ⟨w.heap.size + 1 + 1 + 1, 0, none⟩) 3 3, .slice none 0 0, .slice (some ⟨w.heap.size + 1 + 1 + 1 + 1, 0, none⟩) 1 1, .slice (some ⟨w.heap.size + 1 + 1 + 1 + 1 + 1, 0, none⟩) 1 1, .int .i64 2, .slice none 0 0] 27)).alloc (.cells #[.int .i64 0, .int .i64 1] 65)) _ (w.heap.size + 1) (by simp)).trans ((by have h := heap_alloc_new (w.alloc (.cells #[.int .i64 3, .slice (some ⟨w.heap.size + 1 + 1 + 1, 0, none⟩) 3 3, .slice none 0 0, .slice (some ⟨w.heap.size + 1 + 1 + 1 + 1, 0, none⟩) 1 1, .slice (some ⟨w.heap.size + 1 + 1 + 1 + 1 + 1, 0, none⟩) 1 1, .int .i64 2, .slice none 0 0] 27)) (.cells #[.int .i64 0, .int .i64 1] 65); simp only [World.size_alloc] at h; exact h)))))
 have hh2 : W0.heap[w.heap.size + 1 + 1]? = some (.cells #[.int .i64 1, .int .i64 0, .int .i64 0, .int .i64 1, .slice none 0 0, .int .i64 1, .int .i64 0, .bool false, .bool true, .int .i64 (-1), .int .i64 (-1), .int .i64 0, .int .i64 1, .int .i64 (-1), .int .i64 (-1), .bool false] 90 (0, 0)) := by rw [HW0.out]; exact (Below.heap_alloc (((((w.alloc (.cells #[.int .i64 3, .slice (some ⟨w.heap.size + 1 + 1 + 1, 0, none⟩) 3 3, .slice none 0 0, .slice (some ⟨w.heap.size + 1 + 1 + 1 + 1, 0, none⟩) 1 1, .slice (some ⟨w.heap.size + 1 + 1 + 1 + 1 + 1, 0, none⟩) 1 1, .int .i64 2, .slice none 0 0] 27)).alloc (.cells #[.int .i64 0, .int .i64 1] 65)).alloc (.cells #[.int .i64 1, .int .i64 0, .int .i64 0, .int .i64 1, .slice none 0 0, .int .i64 1, .int .i64 0, .bool false, .bool true, .int .i64 (-1), .int .i64 (-1), .int .i64 0, .int .i64 1, .int .i64 (-1), .int .i64 (-1), .bool false] 90)).alloc (.cells #[.int .i64 0, .int .i64 1, .int .i64 2] 3)).alloc (.cells #[.int .i64 1, .int .i64 0, .int .i64 0, .int .i64 1, .int .i64 (-1), .int .i64 0, .int .i64 1] 67)) _ (w.heap.size + 1 + 1) (by simp only [World.size_alloc]; omega)).trans ((Below.heap_alloc ((((w.alloc (.cells #[.int .i64 3, .slice (some ⟨w.heap.size + 1 + 1 + 1, 0, none⟩) 3 3, .slice none 0 0, .slice (some ⟨w.heap.size + 1 + 1 + 1 + 1, 0, none⟩) 1 1, .slice (some ⟨w.heap.size + 1 + 1 + 1 + 1 + 1, 0, none⟩) 1 1, .int .i64 2, .slice none 0 0] 27)).alloc (.cells #[.int .i64 0, .int .i64 1] 65)).alloc (.cells #[.int .i64 1, .int .i64 0, .int .i64 0, .int .i64 1, .slice none 0 0, .int .i64 1, .int .i64 0, .bool false, .bool true, .int .i64 (-1), .int .i64 (-1), .int .i64 0, .int .i64 1, .int .i64 (-1), .int .i64 (-1), .bool false] 90)).alloc (.cells #[.int .i64 0, .int .i64 1, .int .i64 2] 3)) _ (w.heap.size + 1 + 1) (by simp only [World.size_alloc]; omega)).trans ((Below.heap_alloc (((w.alloc (.cells #[.int .i64 3, .slice (some ⟨w.heap.size + 1 + 1 + 1, 0, none⟩) 3 3, .slice none 0 0, .slice (some ⟨w.heap.size + 1 + 1 + 1 + 1, 0, none⟩) 1 1, .slice (some ⟨w.heap.size + 1 + 1 + 1 + 1 + 1, 0, none⟩) 1 1, .int .i64 2, .slice none 0 0] 27)).alloc (.cells #[.int .i64 0, .int .i64 1] 65)).alloc (.cells #[.int .i64 1, .int .i64 0, .int .i64 0, .int .i64 1, .slice none 0 0, .int .i64 1, .int .i64 0, .bool false, .bool true, .int .i64 (-1), .int .i64 (-1), .int .i64 0, .int .i64 1, .int .i64 (-1), .int .i64 (-1), .bool false] 90)) _ (w.heap.size + 1 + 1) (by simp)).trans ((by have h := heap_alloc_new ((w.alloc (.cells #[.int .i64 3, .slice (some ⟨w.heap.size + 1 + 1 + 1, 0, none⟩) 3 3, .slice none 0 0, .slice (some ⟨w.heap.size + 1 + 1 + 1 + 1, 0, none⟩) 1 1, .slice (some ⟨w.heap.size + 1 + 1 + 1 + 1 + 1, 0, none⟩) 1 1, .int .i64 2, .slice none 0 0] 27)).alloc (.cells #[.int .i64 0, .int .i64 1] 65)) (.cells #[.int .i64 1, .int .i64 0, .int .i64 0, .int .i64 1, .slice none 0 0, .int .i64 1, .int .i64 0, .bool false, .bool true, .int .i64 (-1), .int .i64 (-1), .int .i64 0, .int .i64 1, .int .i64 (-1), .int .i64 (-1), .bool false] 90); simp only [World.size_alloc] at h; exact h))))
 have hh3 : W0.heap[w.heap.size + 1 + 1 + 1]? = some (.cells #[.int .i64 0, .int .i64 1, .int .i64 2] 3 (0, 0)) := by rw [HW0.out]; exact (Below.heap_alloc (((((w.alloc (.cells #[.int .i64 3, .slice (some ⟨w.heap.size + 1 + 1 + 1, 0, none⟩) 3 3, .slice none 0 0, .slice (some ⟨w.heap.size + 1 + 1 + 1 + 1, 0, none⟩) 1 1, .slice (some ⟨w.heap.size + 1 + 1 + 1 + 1 + 1, 0, none⟩) 1 1, .int .i64 2, .slice none 0 0] 27)).alloc (.cells #[.int .i64 0, .int .i64 1] 65)).alloc (.cells #[.int .i64 1, .int .i64 0, .int .i64 0, .int .i64 1, .slice none 0 0, .int .i64 1, .int .i64 0, .bool false, .bool true, .int .i64 (-1), .int .i64 (-1), .int .i64 0, .int .i64 1, .int .i64 (-1), .int .i64 (-1), .bool false] 90)).alloc (.cells #[.int .i64 0, .int .i64 1, .int .i64 2] 3)).alloc (.cells #[.int .i64 1, .int .i64 0, .int .i64 0, .int .i64 1, .int .i64 (-1), .int .i64 0, .int .i64 1] 67)) _ (w.heap.size + 1 + 1 + 1) (by simp only [World.size_alloc]; omega)).trans ((Below.heap_alloc ((((w.alloc (.cells #[.int .i64 3, .slice (some ⟨w.heap.size + 1 + 1 + 1, 0, none⟩) 3 3, .slice none 0 0, .slice (some ⟨w.heap.size + 1 + 1 + 1 + 1, 0, none⟩) 1 1, .slice (some ⟨w.heap.size + 1 + 1 + 1 + 1 + 1, 0, none⟩) 1 1, .int .i64 2, .slice none 0 0] 27)).alloc (.cells #[.int .i64 0, .int .i64 1] 65)).alloc (.cells #[.int .i64 1, .int .i64 0, .int .i64 0, .int .i64 1, .slice none 0 0, .int .i64 1, .int .i64 0, .bool false, .bool true, .int .i64 (-1), .int .i64 (-1), .int .i64 0, .int .i64 1, .int .i64 (-1), .int .i64 (-1), .bool false] 90)).alloc (.cells #[.int .i64 0, .int .i64 1, .int .i64 2] 3)) _ (w.heap.size + 1 + 1 + 1) (by simp)).trans ((by have h := heap_alloc_new (((w.alloc (.cells #[.int .i64 3, .slice (some ⟨w.heap.size + 1 + 1 + 1, 0, none⟩) 3 3, .slice none 0 0, .slice (some ⟨w.heap.size + 1 + 1 + 1 + 1, 0, none⟩) 1 1, .slice (some ⟨w.heap.size + 1 + 1 + 1 + 1 + 1, 0, none⟩) 1 1, .int .i64 2, .slice none 0 0] 27)).alloc (.cells #[.int .i64 0, .int .i64 1] 65)).alloc (.cells #[.int .i64 1, .int .i64 0, .int .i64 0, .int .i64 1, .slice none 0 0, .int .i64 1, .int .i64 0, .bool false, .bool true, .int .i64 (-1), .int .i64 (-1), .int .i64 0, .int .i64 1, .int .i64 (-1), .int .i64 (-1), .bool false] 90)) (.cells #[.int .i64 0, .int .i64 1, .int .i64 2] 3); simp only [World.size_alloc] at h; exact h)))
 have hh4 : W0.heap[w.heap.size + 1 + 1 + 1 + 1]? = some (.cells #[.int .i64 1, .int .i64 0, .int .i64 0, .int .i64 1, .int .i64 (-1), .int .i64 0, .int .i64 1] 67 (0, 0)) := by rw [HW0.out]; exact (Below.heap_alloc (((((w.alloc (.cells #[.int .i64 3, .slice (some ⟨w.heap.size + 1 + 1 + 1, 0, none⟩) 3 3, .slice none 0 0, .slice (some ⟨w.heap.size + 1 + 1 + 1 + 1, 0, none⟩) 1 1, .slice (some ⟨w.heap.size + 1 + 1 + 1 + 1 + 1, 0, none⟩) 1 1, .int .i64 2, .slice none 0 0] 27)).alloc (.cells #[.int .i64 0, .int .i64 1] 65)).alloc (.cells #[.int .i64 1, .int .i64 0, .int .i64 0, .int .i64 1, .slice none 0 0, .int .i64 1, .int .i64 0, .bool false, .bool true, .int .i64 (-1), .int .i64 (-1), .int .i64 0, .int .i64 1, .int .i64 (-1), .int .i64 (-1), .bool false] 90)).alloc (.cells #[.int .i64 0, .int .i64 1, .int .i64 2] 3)).alloc (.cells #[.int .i64 1, .int .i64 0, .int .i64 0, .int .i64 1, .int .i64 (-1), .int .i64 0, .int .i64 1] 67)) _ (w.heap.size + 1 + 1 + 1 + 1) (by simp)).trans ((by have h := heap_alloc_new ((((w.alloc (.cells #[.int .i64 3, .slice (some ⟨w.heap.size + 1 + 1 + 1, 0, none⟩) 3 3, .slice none 0 0, .slice (some ⟨w.heap.size + 1 + 1 + 1 + 1, 0, none⟩) 1 1, .slice (some ⟨w.heap.size + 1 + 1 + 1 + 1 + 1, 0, none⟩) 1 1, .int .i64 2, .slice none 0 0] 27)).alloc (.cells #[.int .i64 0, .int .i64 1] 65)).alloc (.cells #[.int .i64 1, .int .i64 0, .int .i64 0, .int .i64 1, .slice none 0 0, .int .i64 1, .int .i64 0, .bool false, .bool true, .int .i64 (-1), .int .i64 (-1), .int .i64 0, .int .i64 1, .int .i64 (-1), .int .i64 (-1), .bool false] 90)).alloc (.cells #[.int .i64 0, .int .i64 1, .int .i64 2] 3)) (.cells #[.int .i64 1, .int .i64 0, .int .i64 0, .int .i64 1, .int .i64 (-1), .int .i64 0, .int .i64 1] 67); simp only [World.size_alloc] at h; exact h))
 have hh5 : W0.heap[w.heap.size + 1 + 1 + 1 + 1 + 1]? = some (.cells #[.int .i64 1, .int .i64 0, .int .i64 0, .int .i64 1, .slice none 0 0, .int .i64 1, .int .i64 0, .bool false, .bool true, .int .i64 (-1), .int .i64 (-1), .int .i64 0, .int .i64 1, .int .i64 (-1), .int .i64 (-1), .bool false] 90 (0, 0)) := by rw [HW0.out]; exact (by have h := heap_alloc_new (((((w.alloc (.cells #[.int .i64 3, .slice (some ⟨w.heap.size + 1 + 1 + 1, 0, none⟩) 3 3, .slice none 0 0, .slice (some ⟨w.heap.size + 1 + 1 + 1 + 1, 0, none⟩) 1 1, .slice (some ⟨w.heap.size + 1 + 1 + 1 + 1 + 1, 0, none⟩) 1 1, .int .i64 2, .slice none 0 0] 27)).alloc (.cells #[.int .i64 0, .int .i64 1] 65)).alloc (.cells #[.int .i64 1, .int .i64 0, .int .i64 0, .int .i64 1, .slice none 0 0, .int .i64 1, .int .i64 0, .bool false, .bool true, .int .i64 (-1), .int .i64 (-1), .int .i64 0, .int .i64 1, .int .i64 (-1), .int .i64 (-1), .bool false] 90)).alloc (.cells #[.int .i64 0, .int .i64 1, .int .i64 2] 3)).alloc (.cells #[.int .i64 1, .int .i64 0, .int .i64 0, .int .i64 1, .int .i64 (-1), .int .i64 0, .int .i64 1] 67)) (.cells #[.int .i64 1, .int .i64 0, .int .i64 0, .int .i64 1, .slice none 0 0, .int .i64 1, .int .i64 0, .bool false, .bool true, .int .i64 (-1), .int .i64 (-1), .int .i64 0, .int .i64 1, .int .i64 (-1), .int .i64 (-1), .bool false] 90); simp only [World.size_alloc] at h; exact h)
 have HB : Hid (Below w.heap.size w W0) := by show Below _ _ _; rw [HW0.out]; exact Below.alloc' (Below.alloc' (Below.alloc' (Below.alloc' (Below.alloc' (Below.alloc' (Below.refl _ _) _) _) _) _) _) _
 rw [← HW0.out]
 clear HW0
 have g0 : W0.cell? ⟨w.heap.size, 0, none⟩ = some (.int .i64 3) := (cell_of_row W0 _ 0 _ _ _ hh0).trans rfl
 have g1 : W0.cell? ⟨w.heap.size, 1, none⟩ = some (.slice (some ⟨w.heap.size + 1 + 1 + 1, 0, none⟩) 3 3) := (cell_of_row W0 _ 1 _ _ _ hh0).trans rfl
 have g2 : W0.cell? ⟨w.heap.size, 2, none⟩ = some (.slice none 0 0) := (cell_of_row W0 _ 2 _ _ _ hh0).trans rfl
 have g3 : W0.cell? ⟨w.heap.size, 3, none⟩ = some (.slice (some ⟨w.heap.size + 1 + 1 + 1 + 1, 0, none⟩) 1 1) := (cell_of_row W0 _ 3 _ _ _ hh0).trans rfl
 have g4 : W0.cell? ⟨w.heap.size, 4, none⟩ = some (.slice (some ⟨w.heap.size + 1 + 1 + 1 + 1 + 1, 0, none⟩) 1 1) := (cell_of_row W0 _ 4 _ _ _ hh0).trans rfl
 have g5 : W0.cell? ⟨w.heap.size, 5, none⟩ = some (.int .i64 2) := (cell_of_row W0 _ 5 _ _ _ hh0).trans rfl
 have g6 : W0.cell? ⟨w.heap.size, 6, none⟩ = some (.slice none 0 0) := (cell_of_row W0 _ 6 _ _ _ hh0).trans rfl
 refine bodyPost_ret (v := .agg #[.int .i64 3, .slice (some ⟨w.heap.size + 1 + 1 + 1, 0, none⟩) 3 3, .slice none 0 0, .slice (some ⟨w.heap.size + 1 + 1 + 1 + 1, 0, none⟩) 1 1, .slice (some ⟨w.heap.size + 1 + 1 + 1 + 1 + 1, 0, none⟩) 1 1, .int .i64 2, .slice none 0 0]) (by simp [results, Tryz.results32, go_sem, g0, g1, g2, g3, g4, g5, g6]) rfl ⟨some ⟨w.heap.size + 1 + 1 + 1, 0, none⟩, 3, none, 0, some ⟨w.heap.size + 1 + 1 + 1 + 1, 0, none⟩, 1, some ⟨w.heap.size + 1 + 1 + 1 + 1 + 1, 0, none⟩, 1, none, 0, rfl, ?_, HB.out⟩
 refine ⟨?_, at_nil _ _, ?_, ?_, at_nil _ _⟩
 · exact at_row hh3 rfl (by decide) (by unfold maxLen; decide)
 · exact at_row hh4 rfl (by decide) (by unfold maxLen; decide)
 · refine ⟨[⟨none, 0⟩], rfl, ?_, ?_⟩
   · exact at_row hh5 rfl (by decide) (by unfold maxLen; decide)
   · intro i k st hk hst
     cases i with
     | zero =>
      simp [exC] at hk hst
      subst hk hst
      exact at_nil _ _
     | succ i => simp [exC] at hk
end Go.Proofs.YtaielhafpmjkaaaGreatDoor
