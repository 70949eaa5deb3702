/-
  Fin; HeadP; HeadQ
-/
import Derived.Test.YtaielhafpmjkaaaGreatDoorQ37
import Derived.Test.YtaielhafpmjkaaaGreatDoorQ38
import Derived.Test.YtaielhafpmjkaaaGreatDoorQ14
namespace Go.Proofs.YtaielhafpmjkaaaGreatDoor
open Go.RowKit Go.Shelf
set_option maxRecDepth 100000 in
set_option maxHeartbeats 2000000 in
theorem final_walk (hHead : ∀ w : World, Tab w → Calls Tryz.prog 11 #[] w (RetB (.bool true) w)) (v : CV) (C : KCon) (p : Int) (sv : SV) (b : List KState) (x k q : Int) (w : World) (hC : ConAt w v C) (hS : StatesAt w sv b) (hT : Tab w) : Calls Tryz.prog 4 #[v.val C, .agg #[.int .i64 p, .slice sv.A b.length sv.c], .int .i64 x, .int .i64 k, .int .i64 q] w (RetB (.bool true) w) := by
 obtain ⟨⟨vhA, vhc⟩, ⟨vuA, vuc⟩, ⟨vaA, vac⟩, ⟨vkA, vkc⟩, ⟨voA, voc⟩⟩ := v
 obtain ⟨bA, bc⟩ := sv
 have HC := Lib.hid hC; clear hC
 have HS := Lib.hid hS; clear hS
 have HT := Lib.hid hT; clear hT
 have HHD := Lib.hid hHead; clear hHead
 simp only [CV.val, CV.cells]
 go_enter Tryz.func4, Tryz.ntmps4
 go_upto_region 1 with (fail)
 obtain ⟨W0, HW0⟩ : ∃ W0, Hid (W0 = (w.alloc (.cells #[.int .i64 C.parties, .slice vhA C.holders.length vhc, .slice vuA C.units.length vuc, .slice vaA C.acts.length vac, .slice vkA C.clauses.length vkc, .int .i64 C.days, .slice voA C.off.length voc] 27)).alloc (.cells #[.int .i64 p, .slice bA b.length bc] 30)) := ⟨_, rfl⟩
 have hh0 : W0.heap[w.heap.size]? = some (.cells #[.int .i64 C.parties, .slice vhA C.holders.length vhc, .slice vuA C.units.length vuc, .slice vaA C.acts.length vac, .slice vkA C.clauses.length vkc, .int .i64 C.days, .slice voA C.off.length voc] 27 (0, 0)) := by rw [HW0.out]; exact (Below.heap_alloc (w.alloc (.cells #[.int .i64 C.parties, .slice vhA C.holders.length vhc, .slice vuA C.units.length vuc, .slice vaA C.acts.length vac, .slice vkA C.clauses.length vkc, .int .i64 C.days, .slice voA C.off.length voc] 27)) _ (w.heap.size) (by simp)).trans (heap_alloc_new w (.cells #[.int .i64 C.parties, .slice vhA C.holders.length vhc, .slice vuA C.units.length vuc, .slice vaA C.acts.length vac, .slice vkA C.clauses.length vkc, .int .i64 C.days, .slice voA C.off.length voc] 27))
 have k0_0 : ∀ z : Bl W0, z.val.cell? ⟨w.heap.size, 0, none⟩ = some (.int .i64 C.parties) := fun z => z.cell ((cell_of_row W0 _ 0 _ _ _ hh0).trans rfl)
 have k0_1 : ∀ z : Bl W0, z.val.cell? ⟨w.heap.size, 1, none⟩ = some (.slice vhA C.holders.length vhc) := fun z => z.cell ((cell_of_row W0 _ 1 _ _ _ hh0).trans rfl)
 have k0_2 : ∀ z : Bl W0, z.val.cell? ⟨w.heap.size, 2, none⟩ = some (.slice vuA C.units.length vuc) := fun z => z.cell ((cell_of_row W0 _ 2 _ _ _ hh0).trans rfl)
 have k0_3 : ∀ z : Bl W0, z.val.cell? ⟨w.heap.size, 3, none⟩ = some (.slice vaA C.acts.length vac) := fun z => z.cell ((cell_of_row W0 _ 3 _ _ _ hh0).trans rfl)
 have k0_4 : ∀ z : Bl W0, z.val.cell? ⟨w.heap.size, 4, none⟩ = some (.slice vkA C.clauses.length vkc) := fun z => z.cell ((cell_of_row W0 _ 4 _ _ _ hh0).trans rfl)
 have k0_5 : ∀ z : Bl W0, z.val.cell? ⟨w.heap.size, 5, none⟩ = some (.int .i64 C.days) := fun z => z.cell ((cell_of_row W0 _ 5 _ _ _ hh0).trans rfl)
 have k0_6 : ∀ z : Bl W0, z.val.cell? ⟨w.heap.size, 6, none⟩ = some (.slice voA C.off.length voc) := fun z => z.cell ((cell_of_row W0 _ 6 _ _ _ hh0).trans rfl)
 clear hh0
 have hh1 : W0.heap[w.heap.size + 1]? = some (.cells #[.int .i64 p, .slice bA b.length bc] 30 (0, 0)) := by rw [HW0.out]; exact (by have h := heap_alloc_new (w.alloc (.cells #[.int .i64 C.parties, .slice vhA C.holders.length vhc, .slice vuA C.units.length vuc, .slice vaA C.acts.length vac, .slice vkA C.clauses.length vkc, .int .i64 C.days, .slice voA C.off.length voc] 27)) (.cells #[.int .i64 p, .slice bA b.length bc] 30); simp only [World.size_alloc] at h; exact h)
 have k1_0 : ∀ z : Bl W0, z.val.cell? ⟨w.heap.size + 1, 0, none⟩ = some (.int .i64 p) := fun z => z.cell ((cell_of_row W0 _ 0 _ _ _ hh1).trans rfl)
 have k1_1 : ∀ z : Bl W0, z.val.cell? ⟨w.heap.size + 1, 1, none⟩ = some (.slice bA b.length bc) := fun z => z.cell ((cell_of_row W0 _ 1 _ _ _ hh1).trans rfl)
 clear hh1
 have HB : Hid (Below w.heap.size w W0) := by show Below _ _ _; rw [HW0.out]; exact Below.alloc' (Below.alloc' (Below.refl _ _) _) _
 rw [← HW0.out]
 change Code.wp _ _ _ _ (Bl.val (⟨W0, Below.refl _ _⟩ : Bl W0))
 generalize (⟨W0, Below.refl _ _⟩ : Bl W0) = s0
 have HH : Hid (∀ z : Bl W0, Calls Tryz.prog 11 #[] z.val (RetB (.bool true) z.val)) := fun z => HHD.out z.val (HT.out.below (Below.step HB.out z.prop))
 have HFW : Hid (∀ z : Bl W0, Calls Tryz.prog 12 #[.agg #[.int .i64 C.parties, .slice vhA C.holders.length vhc, .slice vuA C.units.length vuc, .slice vaA C.acts.length vac, .slice vkA C.clauses.length vkc, .int .i64 C.days, .slice voA C.off.length voc], .slice none 0 0, .agg #[.int .i64 p, .slice bA b.length bc]] z.val (SomeB z.val)) := fun z => few_any (⟨⟨vhA, vhc⟩, ⟨vuA, vuc⟩, ⟨vaA, vac⟩, ⟨vkA, vkc⟩, ⟨voA, voc⟩⟩ : CV) C ⟨none, 0⟩ [] p ⟨bA, bc⟩ b z.val (HC.out.below (Below.step HB.out z.prop)) ⟨⟨rfl, (fun u hu => by cases hu), fun h => by simp at h⟩, fun _ => ⟨rfl, rfl⟩, Nat.le_refl _, Nat.zero_le _⟩ (HS.out.below (Below.step HB.out z.prop))
 have HSE : Hid (∀ z : Bl W0, Calls Tryz.prog 17 #[.agg #[.int .i64 C.parties, .slice vhA C.holders.length vhc, .slice vuA C.units.length vuc, .slice vaA C.acts.length vac, .slice vkA C.clauses.length vkc, .int .i64 C.days, .slice voA C.off.length voc], .agg #[.int .i64 p, .slice bA b.length bc], .int .i64 x] z.val (BelPost p (SeeOk C p x b) (SeeEr C p x b) z.val)) := fun z => see_any (⟨⟨vhA, vhc⟩, ⟨vuA, vuc⟩, ⟨vaA, vac⟩, ⟨vkA, vkc⟩, ⟨voA, voc⟩⟩ : CV) C p x ⟨bA, bc⟩ b z.val (HC.out.below (Below.step HB.out z.prop)) (HS.out.below (Below.step HB.out z.prop)) (HT.out.below (Below.step HB.out z.prop))
 go_wp2_with (first | (go_at_call 11; refine (HH.out _).mono ?_; rintro e z ⟨rfl, hz⟩; obtain ⟨z, rfl⟩ := Bl.on hz; clear hz) | (go_at_call 12; refine (HFW.out _).mono ?_; rintro e z ⟨fx, rfl, hz⟩; obtain ⟨z, rfl⟩ := Bl.on hz; clear hz; refine Hid.out ?_))
 refine Lib.hid ?_
 cases fx with
 | false =>
  go_wp2
  go_ret
  exact ⟨rfl, Below.step HB.out (Bl.prop _)⟩
 | true =>
  go_wp2_with (go_at_call 17; refine (HSE.out _).mono ?_; rintro e z1 ⟨qq, A, c, r, er, rfl, hb1, hcase⟩; refine Hid.out ?_)
  refine Lib.hid ?_
  obtain ⟨zb, HZB⟩ : ∃ zb : Bl W0, Hid (Below zb.val.heap.size zb.val z1 ∧ ((er = 0 ∧ qq = p ∧ StatesN zb.val.heap.size z1 ⟨A, c⟩ r ∧ SeeOk C p x b r) ∨ (er ≠ 0 ∧ qq = 0 ∧ A = none ∧ c = 0 ∧ r = [] ∧ SeeEr C p x b er))) := ⟨_, hb1, hcase⟩
  clear hb1 hcase
  go_upto_region 5 with (fail)
  obtain ⟨W1, HW1⟩ : ∃ W1, Hid (W1 = z1.alloc (.cells #[.int .i64 qq, .slice A r.length c] 30)) := ⟨_, rfl⟩
  rw [← HW1.out]
  have hba : Below z1.heap.size z1 W1 := by rw [HW1.out]; exact Below.alloc' (Below.refl _ _) _
  have hax : W1.heap[z1.heap.size]? = some (.cells #[.int .i64 qq, .slice A r.length c] 30 (0, 0)) := by rw [HW1.out]; exact heap_alloc_new z1 _
  have HP1 : Hid (Below W0.heap.size W0 W1) := Below.step (Below.step zb.prop HZB.out.1) hba
  cases q1 : (er == 0) with
  | false =>
   have qn : ¬ (er = 0) := by rw [beq_eq_false_iff_ne] at q1; exact q1
   clear hax hba
   go_wp2
   go_ret
   exact ⟨rfl, Below.step HB.out HP1.out⟩
  | true =>
   obtain rfl : er = 0 := by rw [beq_iff_eq] at q1; exact q1
   obtain ⟨HQ, HSN, HOK⟩ : Hid (qq = p) ∧ Hid (StatesN 0 z1 ⟨A, c⟩ r) ∧ Hid (SeeOk C p x b r) := by
    rcases HZB.out.2 with ⟨_, e2, e3, e4⟩ | ⟨e1, _⟩
    · exact ⟨e2, e3.mono (Nat.zero_le _), e4⟩
    · exact absurd rfl e1
   have hq := HQ.out
   subst hq
   have d0 : ∀ z : Bl W1, z.val.cell? ⟨z1.heap.size, 0, none⟩ = some (.int .i64 qq) := fun z => z.cell ((cell_of_row W1 _ 0 _ _ _ hax).trans rfl)
   have d1 : ∀ z : Bl W1, z.val.cell? ⟨z1.heap.size, 1, none⟩ = some (.slice A r.length c) := fun z => z.cell ((cell_of_row W1 _ 1 _ _ _ hax).trans rfl)
   have y0 : ∀ z : Bl W1, z.val.cell? ⟨w.heap.size, 0, none⟩ = some (.int .i64 C.parties) := fun z => k0_0 ⟨z.val, Below.step HP1.out z.prop⟩
   have y1 : ∀ z : Bl W1, z.val.cell? ⟨w.heap.size, 1, none⟩ = some (.slice vhA C.holders.length vhc) := fun z => k0_1 ⟨z.val, Below.step HP1.out z.prop⟩
   have y2 : ∀ z : Bl W1, z.val.cell? ⟨w.heap.size, 2, none⟩ = some (.slice vuA C.units.length vuc) := fun z => k0_2 ⟨z.val, Below.step HP1.out z.prop⟩
   have y3 : ∀ z : Bl W1, z.val.cell? ⟨w.heap.size, 3, none⟩ = some (.slice vaA C.acts.length vac) := fun z => k0_3 ⟨z.val, Below.step HP1.out z.prop⟩
   have y4 : ∀ z : Bl W1, z.val.cell? ⟨w.heap.size, 4, none⟩ = some (.slice vkA C.clauses.length vkc) := fun z => k0_4 ⟨z.val, Below.step HP1.out z.prop⟩
   have y5 : ∀ z : Bl W1, z.val.cell? ⟨w.heap.size, 5, none⟩ = some (.int .i64 C.days) := fun z => k0_5 ⟨z.val, Below.step HP1.out z.prop⟩
   have y6 : ∀ z : Bl W1, z.val.cell? ⟨w.heap.size, 6, none⟩ = some (.slice voA C.off.length voc) := fun z => k0_6 ⟨z.val, Below.step HP1.out z.prop⟩
   have x0 : ∀ z : Bl W1, z.val.cell? ⟨w.heap.size + 1, 0, none⟩ = some (.int .i64 qq) := fun z => k1_0 ⟨z.val, Below.step HP1.out z.prop⟩
   have x1 : ∀ z : Bl W1, z.val.cell? ⟨w.heap.size + 1, 1, none⟩ = some (.slice bA b.length bc) := fun z => k1_1 ⟨z.val, Below.step HP1.out z.prop⟩
   have HC1 : Hid (∀ z : Bl W1, ConAt z.val (⟨⟨vhA, vhc⟩, ⟨vuA, vuc⟩, ⟨vaA, vac⟩, ⟨vkA, vkc⟩, ⟨voA, voc⟩⟩ : CV) C) := fun z => HC.out.below (Below.step HB.out (Below.step HP1.out z.prop))
   have HS1 : Hid (∀ z : Bl W1, StatesAt z.val ⟨bA, bc⟩ b) := fun z => HS.out.below (Below.step HB.out (Below.step HP1.out z.prop))
   have HD1 : Hid (∀ z : Bl W1, StatesAt z.val ⟨A, c⟩ r) := fun z => HSN.out.at.below (Below.step hba z.prop)
   have HVB : Hid (∀ z : Bl W1, Calls Tryz.prog 13 #[.agg #[.int .i64 C.parties, .slice vhA C.holders.length vhc, .slice vuA C.units.length vuc, .slice vaA C.acts.length vac, .slice vkA C.clauses.length vkc, .int .i64 C.days, .slice voA C.off.length voc], .agg #[.int .i64 qq, .slice bA b.length bc], .int .i64 k] z.val (RetB (.int .i64 (C.verdict ⟨qq, b⟩ k)) z.val)) := fun z => verdict_any (⟨⟨vhA, vhc⟩, ⟨vuA, vuc⟩, ⟨vaA, vac⟩, ⟨vkA, vkc⟩, ⟨voA, voc⟩⟩ : CV) C ⟨bA, bc⟩ ⟨qq, b⟩ k z.val (HC1.out z) (HS1.out z)
   have HVD : Hid (∀ z : Bl W1, Calls Tryz.prog 13 #[.agg #[.int .i64 C.parties, .slice vhA C.holders.length vhc, .slice vuA C.units.length vuc, .slice vaA C.acts.length vac, .slice vkA C.clauses.length vkc, .int .i64 C.days, .slice voA C.off.length voc], .agg #[.int .i64 qq, .slice A r.length c], .int .i64 k] z.val (RetB (.int .i64 (C.verdict ⟨qq, r⟩ k)) z.val)) := fun z => verdict_any (⟨⟨vhA, vhc⟩, ⟨vuA, vuc⟩, ⟨vaA, vac⟩, ⟨vkA, vkc⟩, ⟨voA, voc⟩⟩ : CV) C ⟨A, c⟩ ⟨qq, r⟩ k z.val (HC1.out z) (HD1.out z)
   have HLB : Hid (∀ z : Bl W1, Calls Tryz.prog 15 #[.agg #[.int .i64 C.parties, .slice vhA C.holders.length vhc, .slice vuA C.units.length vuc, .slice vaA C.acts.length vac, .slice vkA C.clauses.length vkc, .int .i64 C.days, .slice voA C.off.length voc], .agg #[.int .i64 qq, .slice bA b.length bc], .int .i64 q] z.val (RetB (.int .i64 (C.blames ⟨qq, b⟩ q)) z.val)) := fun z => blames_any (⟨⟨vhA, vhc⟩, ⟨vuA, vuc⟩, ⟨vaA, vac⟩, ⟨vkA, vkc⟩, ⟨voA, voc⟩⟩ : CV) C ⟨bA, bc⟩ ⟨qq, b⟩ q z.val (HC1.out z) (HS1.out z)
   have HLD : Hid (∀ z : Bl W1, Calls Tryz.prog 15 #[.agg #[.int .i64 C.parties, .slice vhA C.holders.length vhc, .slice vuA C.units.length vuc, .slice vaA C.acts.length vac, .slice vkA C.clauses.length vkc, .int .i64 C.days, .slice voA C.off.length voc], .agg #[.int .i64 qq, .slice A r.length c], .int .i64 q] z.val (RetB (.int .i64 (C.blames ⟨qq, r⟩ q)) z.val)) := fun z => blames_any (⟨⟨vhA, vhc⟩, ⟨vuA, vuc⟩, ⟨vaA, vac⟩, ⟨vkA, vkc⟩, ⟨voA, voc⟩⟩ : CV) C ⟨A, c⟩ ⟨qq, r⟩ q z.val (HC1.out z) (HD1.out z)
   have HVF : Hid (∀ u : Int, C.verdict ⟨qq, b⟩ k = u → (u = 1 ∨ u = 3) → C.verdict ⟨qq, r⟩ k = u) := fun u h1 h2 => verdict_final HOK.out h1 h2
   have HLF : Hid (C.blames ⟨qq, b⟩ q = 3 → C.blames ⟨qq, r⟩ q = 3) := fun h => blames_final HOK.out h
   generalize C.verdict ⟨qq, b⟩ k = vb at HVB HVF
   generalize C.verdict ⟨qq, r⟩ k = vd at HVD HVF
   generalize C.blames ⟨qq, b⟩ q = lb at HLB HLF
   generalize C.blames ⟨qq, r⟩ q = ld at HLD HLF
   clear HQ HZB hax hba q1
   obtain ⟨s1, hs1⟩ : ∃ s1 : Bl W1, s1.val = W1 := ⟨⟨W1, Below.refl _ _⟩, rfl⟩
   rw [← hs1]
   clear hs1
   by_cases h1 : vb = 1
   · have h2 := HVF.out vb rfl (.inl h1)
     subst h1
     subst h2
     go_wp2_with (go_at_call 13; refine (HVB.out _).mono ?_; rintro e z ⟨rfl, hz⟩; obtain ⟨z, rfl⟩ := Bl.on hz; clear hz; refine Hid.out ?_)
     refine Lib.hid ?_
     go_wp2_with (go_at_call 13; refine (HVD.out _).mono ?_; rintro e z ⟨rfl, hz⟩; obtain ⟨z, rfl⟩ := Bl.on hz; clear hz; refine Hid.out ?_)
     refine Lib.hid ?_
     by_cases h3 : lb = 3
     · have h4 := HLF.out h3
       subst h3 h4
       go_wp2_with (go_at_call 15; refine (HLB.out _).mono ?_; rintro e z ⟨rfl, hz⟩; obtain ⟨z, rfl⟩ := Bl.on hz; clear hz; refine Hid.out ?_)
       refine Lib.hid ?_
       go_wp2_with (go_at_call 15; refine (HLD.out _).mono ?_; rintro e z ⟨rfl, hz⟩; obtain ⟨z, rfl⟩ := Bl.on hz; clear hz; refine Hid.out ?_)
       refine Lib.hid ?_
       go_wp2
       go_ret
       exact ⟨rfl, Below.step HB.out (Below.step HP1.out (Bl.prop _))⟩
     · have h3' : (lb == 3) = false := by rw [beq_eq_false_iff_ne]; exact h3
       go_wp2_with (go_at_call 15; refine (HLB.out _).mono ?_; rintro e z ⟨rfl, hz⟩; obtain ⟨z, rfl⟩ := Bl.on hz; clear hz; refine Hid.out ?_)
       refine Lib.hid ?_
       go_wp2
       go_ret
       exact ⟨rfl, Below.step HB.out (Below.step HP1.out (Bl.prop _))⟩
   · have h1' : (vb == 1) = false := by rw [beq_eq_false_iff_ne]; exact h1
     by_cases h5 : vb = 3
     · have h2 := HVF.out vb rfl (.inr h5)
       subst h5
       subst h2
       go_wp2_with (go_at_call 13; refine (HVB.out _).mono ?_; rintro e z ⟨rfl, hz⟩; obtain ⟨z, rfl⟩ := Bl.on hz; clear hz; refine Hid.out ?_)
       refine Lib.hid ?_
       go_wp2_with (go_at_call 13; refine (HVD.out _).mono ?_; rintro e z ⟨rfl, hz⟩; obtain ⟨z, rfl⟩ := Bl.on hz; clear hz; refine Hid.out ?_)
       refine Lib.hid ?_
       by_cases h3 : lb = 3
       · have h4 := HLF.out h3
         subst h3 h4
         go_wp2_with (go_at_call 15; refine (HLB.out _).mono ?_; rintro e z ⟨rfl, hz⟩; obtain ⟨z, rfl⟩ := Bl.on hz; clear hz; refine Hid.out ?_)
         refine Lib.hid ?_
         go_wp2_with (go_at_call 15; refine (HLD.out _).mono ?_; rintro e z ⟨rfl, hz⟩; obtain ⟨z, rfl⟩ := Bl.on hz; clear hz; refine Hid.out ?_)
         refine Lib.hid ?_
         go_wp2
         go_ret
         exact ⟨rfl, Below.step HB.out (Below.step HP1.out (Bl.prop _))⟩
       · have h3' : (lb == 3) = false := by rw [beq_eq_false_iff_ne]; exact h3
         go_wp2_with (go_at_call 15; refine (HLB.out _).mono ?_; rintro e z ⟨rfl, hz⟩; obtain ⟨z, rfl⟩ := Bl.on hz; clear hz; refine Hid.out ?_)
         refine Lib.hid ?_
         go_wp2
         go_ret
         exact ⟨rfl, Below.step HB.out (Below.step HP1.out (Bl.prop _))⟩
     · have h5' : (vb == 3) = false := by rw [beq_eq_false_iff_ne]; exact h5
       go_wp2_with (go_at_call 13; refine (HVB.out _).mono ?_; rintro e z ⟨rfl, hz⟩; obtain ⟨z, rfl⟩ := Bl.on hz; clear hz; refine Hid.out ?_)
       refine Lib.hid ?_
       by_cases h3 : lb = 3
       · have h4 := HLF.out h3
         subst h3 h4
         go_wp2_with (go_at_call 15; refine (HLB.out _).mono ?_; rintro e z ⟨rfl, hz⟩; obtain ⟨z, rfl⟩ := Bl.on hz; clear hz; refine Hid.out ?_)
         refine Lib.hid ?_
         go_wp2_with (go_at_call 15; refine (HLD.out _).mono ?_; rintro e z ⟨rfl, hz⟩; obtain ⟨z, rfl⟩ := Bl.on hz; clear hz; refine Hid.out ?_)
         refine Lib.hid ?_
         go_wp2
         go_ret
         exact ⟨rfl, Below.step HB.out (Below.step HP1.out (Bl.prop _))⟩
       · have h3' : (lb == 3) = false := by rw [beq_eq_false_iff_ne]; exact h3
         go_wp2_with (go_at_call 15; refine (HLB.out _).mono ?_; rintro e z ⟨rfl, hz⟩; obtain ⟨z, rfl⟩ := Bl.on hz; clear hz; refine Hid.out ?_)
         refine Lib.hid ?_
         go_wp2
         go_ret
         exact ⟨rfl, Below.step HB.out (Below.step HP1.out (Bl.prop _))⟩
end Go.Proofs.YtaielhafpmjkaaaGreatDoor
namespace Go.Proofs.YtaielhafpmjkaaaGreatDoor
open Go.RowKit Go.Shelf
theorem Reach.sub {C : KCon} {p : Int} {l S : List KState} (h0 : ∀ s ∈ l, s ∈ S) (h1 : ∀ s ∈ S, s.day < C.days → ∀ x ∈ C.hid s p, C.next s x ∈ S) {s : KState} (h : Reach C p l s) : s ∈ S := by
 induction h with
 | base hs => exact h0 _ hs
 | step _ hd hx ih => exact h1 _ ih hd _ hx
theorem nodup_len {F S : List KState} (hn : F.Nodup) (hs : ∀ s ∈ F, s ∈ S) : F.length ≤ S.length := by
 induction F generalizing S with
 | nil => exact Nat.zero_le _
 | cons a F ih =>
  obtain ⟨S1, S2, rfl⟩ := List.append_of_mem (hs a (List.mem_cons_self))
  rw [List.nodup_cons] at hn
  have h1 := ih (S := S1 ++ S2) hn.2 (fun s hs' => by
   have h2 := hs s (List.mem_cons_of_mem _ hs')
   rw [List.mem_append, List.mem_cons] at h2
   rw [List.mem_append]
   rcases h2 with h2 | rfl | h2
   · exact .inl h2
   · exact absurd hs' hn.1
   · exact .inr h2)
  simp only [List.length_append, List.length_cons] at h1 ⊢
  omega
theorem IsClo.nodup {C : KCon} {p : Int} {l r : List KState} (h : IsClo C p l r) : r.Nodup := by
 have h1 := h.sorted
 rw [List.pairwise_map] at h1
 refine h1.imp ?_
 intro a b hlt e
 subst e
 exact absurd hlt (List.lt_irrefl _)
theorem TooMany.not {C : KCon} {p : Int} {l S : List KState} (h0 : ∀ s ∈ l, s ∈ S) (h1 : ∀ s ∈ S, s.day < C.days → ∀ x ∈ C.hid s p, C.next s x ∈ S) (hl : S.length ≤ 300) : ¬ TooMany C p l := by
 rintro ⟨F, hn, h3, hr⟩
 have := nodup_len hn (fun s hs => (hr s hs).sub h0 h1)
 omega
def ex0 : KState := exC.first
def exS : KState := exC.next ex0 0
def exT : KState := exC.next ex0 (-1)
def exU : KState := exC.next exS (-1)
theorem IsClo.one {C : KCon} {p : Int} {a : KState} {r : List KState} (h : IsClo C p [a] r) (hh : C.hid a p = []) : r = [a] := by
 have hsub : ∀ s ∈ r, s ∈ [a] := fun s hs => (h.reach s hs).sub (fun _ h => h) (fun s hs hd x hx => by
  rw [List.mem_singleton] at hs
  subst hs
  rw [hh] at hx
  cases hx)
 have hl := nodup_len h.nodup hsub
 have ha := h.has a (List.mem_singleton.2 rfl)
 match r, hl, ha, hsub with
 | [x], _, ha, _ => rw [List.mem_singleton] at ha; rw [ha]
theorem IsClo.two {C : KCon} {p : Int} {a b : KState} {l r : List KState} (h : IsClo C p l r) (hne : a ≠ b) (h0 : ∀ s ∈ l, s ∈ [a, b]) (h1 : ∀ s ∈ [a, b], s.day < C.days → ∀ x ∈ C.hid s p, C.next s x ∈ [a, b]) (h2 : ∀ s ∈ [a, b], s ∈ r) : r = [a, b] ∨ r = [b, a] := by
 have hl := nodup_len h.nodup (fun s hs => (h.reach s hs).sub h0 h1)
 have hl2 := nodup_len (F := [a, b]) (S := r) (by simp [hne]) h2
 have ha := h2 a (by simp)
 have hb := h2 b (by simp)
 match r, hl, hl2, ha, hb with
 | [x, y], _, _, ha, hb =>
  simp only [List.mem_cons, List.not_mem_nil, or_false] at ha hb
  rcases ha with rfl | rfl
  · rcases hb with rfl | rfl
    · exact absurd rfl hne
    · exact .inl rfl
  · rcases hb with rfl | rfl
    · exact .inr rfl
    · exact absurd rfl hne
theorem Watched.inv {C : KCon} {p : Int} {l : List Int} {r : List KState} (h : Watched C p l r) : (l = [] ∧ C.startOk p ∧ IsClo C p [C.first] r) ∨ ∃ l0 x r0, l = l0 ++ [x] ∧ Watched C p l0 r0 ∧ AfterOk C p x r0 r := by
 cases h with
 | nil h1 h2 => exact .inl ⟨rfl, h1, h2⟩
 | snoc h1 h2 => exact .inr ⟨_, _, _, rfl, h1, h2⟩
theorem Watched.inv_nil {C : KCon} {p : Int} {r : List KState} (h : Watched C p [] r) : C.startOk p ∧ IsClo C p [C.first] r := by
 rcases h.inv with ⟨_, h1⟩ | ⟨l0, x, r0, e, _⟩
 · exact h1
 · simp at e
theorem Watched.inv_snoc {C : KCon} {p : Int} {l0 : List Int} {x : Int} {r : List KState} (h : Watched C p (l0 ++ [x]) r) : ∃ r0, Watched C p l0 r0 ∧ AfterOk C p x r0 r := by
 rcases h.inv with ⟨e, _⟩ | ⟨l1, y, r0, e, h1, h2⟩
 · simp at e
 · obtain ⟨rfl, e2⟩ := List.append_inj' e rfl
   injection e2 with e2
   subst e2
   exact ⟨r0, h1, h2⟩
theorem ex_valid : exC.valid = true := by kernel_rfl
theorem ex0_1 : exC.hid ex0 1 = [] := by kernel_rfl
theorem ex0_2 : exC.hid ex0 2 = [0] := by kernel_rfl
theorem exS_1 : exC.hid exS 1 = [] := by kernel_rfl
theorem exS_2 : exC.hid exS 2 = [] := by kernel_rfl
theorem exT_1 : exC.hid exT 1 = [] := by kernel_rfl
theorem exT_2 : exC.hid exT 2 = [] := by kernel_rfl
theorem exU_1 : exC.hid exU 1 = [] := by kernel_rfl
theorem exU_2 : exC.hid exU 2 = [] := by kernel_rfl
theorem ex_ne : ex0 ≠ exS := fun e => by
 have h : (ex0.marks.map (fun m => m.status)) = (exS.marks.map (fun m => m.status)) := by rw [e]
 exact absurd h (by decide)
theorem exT_ne : exT ≠ exU := fun e => by
 have h : (exT.marks.map (fun m => m.status)) = (exU.marks.map (fun m => m.status)) := by rw [e]
 exact absurd h (by decide)
theorem ex_start1 : exC.startOk 1 := ⟨ex_valid, by decide, by decide⟩
theorem ex_start2 : exC.startOk 2 := ⟨ex_valid, by decide, by decide⟩
theorem ex_clo1 {r : List KState} (h : IsClo exC 1 [exC.first] r) : r = [ex0] := IsClo.one (a := ex0) h ex0_1
theorem ex_closed2 : ∀ s ∈ [ex0, exS], s.day < exC.days → ∀ x ∈ exC.hid s 2, exC.next s x ∈ [ex0, exS] := by
 intro s hs _ x hx
 simp only [List.mem_cons, List.not_mem_nil, or_false] at hs
 rcases hs with rfl | rfl
 · rw [ex0_2, List.mem_singleton] at hx
   subst hx
   exact List.mem_cons_of_mem _ (List.mem_singleton.2 rfl)
 · rw [exS_2] at hx
   cases hx
theorem ex_clo2 {r : List KState} (h : IsClo exC 2 [exC.first] r) : r = [ex0, exS] ∨ r = [exS, ex0] := by
 have h0 : ex0 ∈ r := h.has ex0 (List.mem_singleton.2 rfl)
 have hS : exS ∈ r := h.closed ex0 h0 (by decide) 0 (by rw [ex0_2]; exact List.mem_singleton.2 rfl)
 exact h.two ex_ne (fun s hs => by rw [List.mem_singleton] at hs; rw [hs]; exact List.mem_cons_self) ex_closed2 (fun s hs => by
  simp only [List.mem_cons, List.not_mem_nil, or_false] at hs
  rcases hs with rfl | rfl
  · exact h0
  · exact hS)
theorem closed_one {p : Int} {a : KState} (hh : exC.hid a p = []) : ∀ s ∈ [a], s.day < exC.days → ∀ x ∈ exC.hid s p, exC.next s x ∈ [a] := by
 intro s hs _ x hx
 rw [List.mem_singleton] at hs
 subst hs
 rw [hh] at hx
 cases hx
theorem ex_startEr1 {er : Int} : ¬ StartEr exC 1 er := by
 rintro (⟨_, h⟩ | ⟨_, _, h⟩)
 · exact h ex_start1
 · exact TooMany.not (S := [ex0]) (fun _ h => h) (closed_one ex0_1) (by decide) h
theorem ex_startEr2 {er : Int} : ¬ StartEr exC 2 er := by
 rintro (⟨_, h⟩ | ⟨_, _, h⟩)
 · exact h ex_start2
 · exact TooMany.not (S := [ex0, exS]) (fun s hs => by rw [List.mem_singleton] at hs; rw [hs]; exact List.mem_cons_self) ex_closed2 (by decide) h
theorem ex_tick : exC.stepOk (-1) := .inl rfl
theorem ex_zero : exC.stepOk 0 := .inr ⟨by decide, by decide⟩
theorem ex_n1 : exC.nexts 1 (-1) [ex0] = [exT] := by kernel_rfl
theorem ex_n2 : exC.nexts 1 0 [ex0] = [exS] := by kernel_rfl
theorem ex_n3 : exC.nexts 1 (-1) [exS] = [exU] := by kernel_rfl
theorem ex_n4 : exC.nexts 2 (-1) [ex0, exS] = [exT, exU] := by kernel_rfl
theorem ex_n5 : exC.nexts 2 (-1) [exS, ex0] = [exU, exT] := by kernel_rfl
theorem ex_n6 : exC.nexts 2 0 [ex0, exS] = [] := by kernel_rfl
theorem ex_n7 : exC.nexts 2 0 [exS, ex0] = [] := by kernel_rfl
theorem ex_w1 {r : List KState} (h : Watched exC 1 [-1] r) : r = [exT] := by
 obtain ⟨r0, h0, _, _, h1⟩ := Watched.inv_snoc (l0 := []) h
 rw [ex_clo1 h0.inv_nil.2, ex_n1] at h1
 exact h1.one exT_1
theorem ex_w2 {r : List KState} (h : Watched exC 1 [0] r) : r = [exS] := by
 obtain ⟨r0, h0, _, _, h1⟩ := Watched.inv_snoc (l0 := []) h
 rw [ex_clo1 h0.inv_nil.2, ex_n2] at h1
 exact h1.one exS_1
theorem ex_w3 {r : List KState} (h : Watched exC 1 [0, -1] r) : r = [exU] := by
 obtain ⟨r0, h0, _, _, h1⟩ := Watched.inv_snoc (l0 := [0]) h
 rw [ex_w2 h0, ex_n3] at h1
 exact h1.one exU_1
theorem closed_TU : ∀ s ∈ [exT, exU], s.day < exC.days → ∀ x ∈ exC.hid s 2, exC.next s x ∈ [exT, exU] := by
 intro s hs _ x hx
 simp only [List.mem_cons, List.not_mem_nil, or_false] at hs
 rcases hs with rfl | rfl
 · rw [exT_2] at hx; cases hx
 · rw [exU_2] at hx; cases hx
theorem ex_w4 {r : List KState} (h : Watched exC 2 [-1] r) : r = [exT, exU] ∨ r = [exU, exT] := by
 obtain ⟨r0, h0, _, _, h1⟩ := Watched.inv_snoc (l0 := []) h
 rcases ex_clo2 h0.inv_nil.2 with rfl | rfl
 · rw [ex_n4] at h1
   exact h1.two exT_ne (fun _ h => h) closed_TU h1.has
 · rw [ex_n5] at h1
   have hm : ∀ s, s ∈ [exT, exU] → s ∈ [exU, exT] := fun s hs => by simp only [List.mem_cons, List.not_mem_nil, or_false] at hs ⊢; exact hs.symm
   exact h1.two exT_ne (fun s hs => by simp only [List.mem_cons, List.not_mem_nil, or_false] at hs ⊢; exact hs.symm) closed_TU (fun s hs => h1.has s (hm s hs))
theorem afterEr_one {p x : Int} {b : List KState} {a : KState} (hx : exC.stepOk x) (hn : exC.nexts p x b = [a]) (hh : exC.hid a p = []) {er : Int} : ¬ AfterEr exC p x b er := by
 rintro (⟨_, h⟩ | ⟨_, ⟨_, h⟩ | ⟨_, h⟩⟩)
 · exact h hx
 · rw [hn] at h; cases h
 · rw [hn] at h
   exact TooMany.not (S := [a]) (fun _ h => h) (closed_one hh) (by simp) h
theorem afterEr_two {b : List KState} (hn : exC.nexts 2 (-1) b = [exT, exU] ∨ exC.nexts 2 (-1) b = [exU, exT]) {er : Int} : ¬ AfterEr exC 2 (-1) b er := by
 rintro (⟨_, h⟩ | ⟨_, ⟨_, h⟩ | ⟨_, h⟩⟩)
 · exact h ex_tick
 · rcases hn with hn | hn <;> rw [hn] at h <;> cases h
 · refine TooMany.not (S := [exT, exU]) (fun s hs => ?_) closed_TU (by decide) h
   rcases hn with hn | hn <;> rw [hn] at hs <;> simp only [List.mem_cons, List.not_mem_nil, or_false] at hs ⊢
   · exact hs
   · exact hs.symm
theorem ex_we1 {er : Int} : ¬ WatchEr exC 1 [-1] er := by
 rintro (h | ⟨_, h⟩ | ⟨k, r, x, hk, hw, h⟩)
 · exact ex_startEr1 h
 · simp at h
 · match k, hk, hw with
   | 0, hk, hw =>
    simp at hk hw
    subst hk
    rw [ex_clo1 hw.inv_nil.2] at h
    exact afterEr_one ex_tick ex_n1 exT_1 h
   | k + 1, hk, _ => simp at hk
theorem ex_we3 {er : Int} : ¬ WatchEr exC 1 [0, -1] er := by
 rintro (h | ⟨_, h⟩ | ⟨k, r, x, hk, hw, h⟩)
 · exact ex_startEr1 h
 · simp at h
 · match k, hk, hw with
   | 0, hk, hw =>
    simp at hk hw
    subst hk
    rw [ex_clo1 hw.inv_nil.2] at h
    exact afterEr_one ex_zero ex_n2 exS_1 h
   | 1, hk, hw =>
    simp at hk hw
    subst hk
    rw [ex_w2 hw] at h
    exact afterEr_one ex_tick ex_n3 exU_1 h
   | k + 2, hk, _ => simp at hk
theorem ex_we2 {er : Int} : ¬ WatchEr exC 2 [-1] er := by
 rintro (h | ⟨_, h⟩ | ⟨k, r, x, hk, hw, h⟩)
 · exact ex_startEr2 h
 · simp at h
 · match k, hk, hw with
   | 0, hk, hw =>
    simp at hk hw
    subst hk
    rcases ex_clo2 hw.inv_nil.2 with rfl | rfl
    · exact afterEr_two (.inl ex_n4) h
    · exact afterEr_two (.inr ex_n5) h
   | k + 1, hk, _ => simp at hk
theorem ex_see {b : List KState} (hb : b = [ex0, exS] ∨ b = [exS, ex0]) : (∀ r, ¬ SeeOk exC 2 0 b r) ∧ ∀ er, SeeEr exC 2 0 b er → er = 13 := by
 have hn : exC.nexts 2 0 b = [] := by
  rcases hb with rfl | rfl
  · exact ex_n6
  · exact ex_n7
 have hk : exC.okBelief ⟨2, b⟩ = true := by rcases hb with rfl | rfl <;> kernel_rfl
 refine ⟨fun r h => h.2.2.1 hn, ?_⟩
 rintro er (⟨_, h⟩ | ⟨_, ⟨_, h⟩ | ⟨_, ⟨h, _⟩ | ⟨_, h⟩⟩⟩)
 · rw [hk] at h; cases h
 · exact absurd ex_zero h
 · exact h
 · rw [hn] at h
   exact absurd h (TooMany.not (S := []) (fun _ h => h) (fun s hs => by cases hs) (by decide))
end Go.Proofs.YtaielhafpmjkaaaGreatDoor
namespace Go.Proofs.YtaielhafpmjkaaaGreatDoor
open Go.RowKit Go.Shelf
def BAt (w : World) (A : Option Addr) (n c : Nat) (Ok : List KState → Prop) : Prop := ∃ r : List KState, r.length = n ∧ StatesAt w ⟨A, c⟩ r ∧ Ok r
theorem BAt.below {w w' : World} {A : Option Addr} {n c : Nat} {Ok : List KState → Prop} (h : BAt w A n c Ok) (hb : Below w.heap.size w w') : BAt w' A n c Ok := by
 obtain ⟨r, h1, h2, h3⟩ := h
 exact ⟨r, h1, h2.below hb, h3⟩
def BelIs (p : Int) (n : Nat) (Ok : List KState → Prop) (w : World) (e : Ending) (w' : World) : Prop :=
 ∃ (A : Option Addr) (c : Nat), e = .returned (.tuple #[.agg #[.int .i64 p, .slice A n c], .int .i64 0]) ∧ Below w.heap.size w w' ∧ BAt w' A n c Ok
theorem BelPost.is {p : Int} {n : Nat} {Ok : List KState → Prop} {Ok' : List KState → Prop} {Er : Int → Prop} {w : World} {e : Ending} {w' : World} (h : BelPost p Ok Er w e w') (h1 : ∀ r, Ok r → r.length = n ∧ Ok' r) (h2 : ∀ er, ¬ Er er) : BelIs p n Ok' w e w' := by
 obtain ⟨q, A, c, r, er, rfl, hb, ⟨rfl, rfl, hs, ho⟩ | ⟨_, _, _, _, _, h3⟩⟩ := h
 · obtain ⟨h4, h5⟩ := h1 r ho
   subst h4
   exact ⟨A, c, rfl, hb, r, rfl, hs.at, h5⟩
 · exact absurd h3 (h2 er)
def Is2 (a b : KState) (r : List KState) : Prop := r = [a, b] ∨ r = [b, a]
theorem is2_len {a b : KState} {r : List KState} (h : Is2 a b r) : r.length = 2 := by rcases h with rfl | rfl <;> rfl
theorem exStart1 (v : CV) (w : World) (hC : ConAt w v exC) (hT : Tab w) : Calls Tryz.prog 33 #[v.val exC, .int .i64 1] w (BelIs 1 1 (fun r => r = [ex0]) w) :=
 (mstart_any v exC 1 w hC hT).mono (fun _ _ h => h.is (fun r hr => by have := ex_clo1 hr.2; subst this; exact ⟨rfl, rfl⟩) (fun _ => ex_startEr1))
theorem exStart2 (v : CV) (w : World) (hC : ConAt w v exC) (hT : Tab w) : Calls Tryz.prog 33 #[v.val exC, .int .i64 2] w (BelIs 2 2 (Is2 ex0 exS) w) :=
 (mstart_any v exC 2 w hC hT).mono (fun _ _ h => h.is (fun _ hr => ⟨is2_len (ex_clo2 hr.2), ex_clo2 hr.2⟩) (fun _ => ex_startEr2))
theorem exWatch2 (v : CV) (A : Option Addr) (c : Nat) (w : World) (hC : ConAt w v exC) (hV : At w 1 A 1 c (ints [-1])) (hT : Tab w) : Calls Tryz.prog 18 #[v.val exC, .int .i64 2, .slice A 1 c] w (BelIs 2 2 (Is2 exT exU) w) :=
 (watch_any v exC 2 ⟨A, c⟩ [-1] w hC hV hT).mono (fun _ _ h => h.is (fun _ hr => ⟨is2_len (ex_w4 hr.2), ex_w4 hr.2⟩) (fun _ => ex_we2))
theorem exWatch1 (v : CV) (A : Option Addr) (c : Nat) (w : World) (hC : ConAt w v exC) (hV : At w 1 A 1 c (ints [-1])) (hT : Tab w) : Calls Tryz.prog 18 #[v.val exC, .int .i64 1, .slice A 1 c] w (BelIs 1 1 (fun r => r = [exT]) w) :=
 (watch_any v exC 1 ⟨A, c⟩ [-1] w hC hV hT).mono (fun _ _ h => h.is (fun r hr => by have := ex_w1 hr.2; subst this; exact ⟨rfl, rfl⟩) (fun _ => ex_we1))
theorem exWatch3 (v : CV) (A : Option Addr) (c : Nat) (w : World) (hC : ConAt w v exC) (hV : At w 1 A 2 c (ints [0, -1])) (hT : Tab w) : Calls Tryz.prog 18 #[v.val exC, .int .i64 1, .slice A 2 c] w (BelIs 1 1 (fun r => r = [exU]) w) :=
 (watch_any v exC 1 ⟨A, c⟩ [0, -1] w hC hV hT).mono (fun _ _ h => h.is (fun r hr => by have := ex_w3 hr.2; subst this; exact ⟨rfl, rfl⟩) (fun _ => ex_we3))
def SeeNone (w : World) (e : Ending) (w' : World) : Prop := e = .returned (.tuple #[.agg #[.int .i64 0, .slice none 0 0], .int .i64 13]) ∧ Below w.heap.size w w'
theorem exSee (v : CV) (A : Option Addr) (c : Nat) (w : World) (hC : ConAt w v exC) (hB : BAt w A 2 c (Is2 ex0 exS)) (hT : Tab w) : Calls Tryz.prog 17 #[v.val exC, .agg #[.int .i64 2, .slice A 2 c], .int .i64 0] w (SeeNone w) := by
 obtain ⟨r, h1, h2, h3⟩ := hB
 have h := see_any v exC 2 0 ⟨A, c⟩ r w hC h2 hT
 rw [h1] at h
 refine h.mono ?_
 rintro e w' ⟨q, A', c', r', er, rfl, hb, ⟨_, _, _, ho⟩ | ⟨_, rfl, rfl, rfl, rfl, he⟩⟩
 · exact absurd ho ((ex_see h3).1 r')
 · rw [(ex_see h3).2 er he]
   exact ⟨rfl, hb⟩
theorem exVerdict {Ok : List KState → Prop} {n : Nat} (v : CV) (p x val : Int) (A : Option Addr) (c : Nat) (w : World) (hC : ConAt w v exC) (hB : BAt w A n c Ok) (hv : ∀ r, Ok r → exC.verdict ⟨p, r⟩ x = val) : Calls Tryz.prog 13 #[v.val exC, .agg #[.int .i64 p, .slice A n c], .int .i64 x] w (RetB (.int .i64 val) w) := by
 obtain ⟨r, h1, h2, h3⟩ := hB
 have h := verdict_any v exC ⟨A, c⟩ ⟨p, r⟩ x w hC h2
 rw [hv r h3] at h
 simp only [h1] at h
 exact h
theorem exBlames {Ok : List KState → Prop} {n : Nat} (v : CV) (p x val : Int) (A : Option Addr) (c : Nat) (w : World) (hC : ConAt w v exC) (hB : BAt w A n c Ok) (hv : ∀ r, Ok r → exC.blames ⟨p, r⟩ x = val) : Calls Tryz.prog 15 #[v.val exC, .agg #[.int .i64 p, .slice A n c], .int .i64 x] w (RetB (.int .i64 val) w) := by
 obtain ⟨r, h1, h2, h3⟩ := hB
 have h := blames_any v exC ⟨A, c⟩ ⟨p, r⟩ x w hC h2
 rw [hv r h3] at h
 simp only [h1] at h
 exact h
theorem exV1 : ∀ r, Is2 exT exU r → exC.verdict ⟨2, r⟩ 0 = 0 := by rintro r (rfl | rfl) <;> kernel_rfl
theorem exB1 : ∀ r, Is2 exT exU r → exC.blames ⟨2, r⟩ 0 = 0 := by rintro r (rfl | rfl) <;> kernel_rfl
theorem exV2 : ∀ r, r = [exT] → exC.verdict ⟨1, r⟩ 0 = 3 := by rintro r rfl; kernel_rfl
theorem exB2 : ∀ r, r = [exT] → exC.blames ⟨1, r⟩ 0 = 3 := by rintro r rfl; kernel_rfl
theorem exV3 : ∀ r, r = [exU] → exC.verdict ⟨1, r⟩ 0 = 1 := by rintro r rfl; kernel_rfl
theorem exV4 : ∀ r, r = [ex0] → exC.verdict ⟨1, r⟩ 0 = 2 := by rintro r rfl; kernel_rfl
theorem exB3 : ∀ r, r = [exU] → exC.blames ⟨1, r⟩ 0 = 2 := by rintro r rfl; kernel_rfl
theorem exV5 : ∀ r, r = [ex0] → exC.verdict ⟨1, r⟩ 1 = 0 := by rintro r rfl; kernel_rfl
end Go.Proofs.YtaielhafpmjkaaaGreatDoor
