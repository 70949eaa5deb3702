/-
  Head
-/
import Derived.Test.YtaielhafpmjkaaaGreatDoorQ39
namespace Go.Proofs.YtaielhafpmjkaaaGreatDoor
open Go.RowKit Go.Shelf
set_option maxRecDepth 100000 in
set_option maxHeartbeats 8000000 in
theorem head_any (w : World) (hT : Tab w) : Calls Tryz.prog 11 #[] w (RetB (.bool true) w) := by
 have HT := Lib.hid hT; clear hT
 go_enter Tryz.func11, Tryz.ntmps11
 go_wp2_with (go_at_call 32; refine (example_any _).mono ?_; rintro e y0 ⟨vhA, vhc, vuA, vuc, vaA, vac, vkA, vkc, voA, voc, rfl, hcon, hb⟩; refine Hid.out ?_)
 refine Lib.hid ?_
 have HY0 : Hid (Below w.heap.size w y0 ∧ ConAt y0 (⟨⟨vhA, vhc⟩, ⟨vuA, vuc⟩, ⟨vaA, vac⟩, ⟨vkA, vkc⟩, ⟨voA, voc⟩⟩ : CV) exC) := ⟨hb, hcon⟩
 clear hb hcon
 have hval : CV.val (⟨⟨vhA, vhc⟩, ⟨vuA, vuc⟩, ⟨vaA, vac⟩, ⟨vkA, vkc⟩, ⟨voA, voc⟩⟩ : CV) exC = .agg #[.int .i64 3, .slice vhA 3 vhc, .slice vuA 0 vuc, .slice vaA 1 vac, .slice vkA 1 vkc, .int .i64 2, .slice voA 0 voc] := rfl
 rw [hval]
 clear hval
 go_upto_region 2 with (fail)
 obtain ⟨W0, HW0⟩ : ∃ W0, Hid (W0 = y0.alloc (.cells #[.int .i64 3, .slice vhA 3 vhc, .slice vuA 0 vuc, .slice vaA 1 vac, .slice vkA 1 vkc, .int .i64 2, .slice voA 0 voc] 27)) := ⟨_, rfl⟩
 rw [← HW0.out]
 have hba : Below y0.heap.size y0 W0 := by rw [HW0.out]; exact Below.alloc' (Below.refl _ _) _
 have hax : W0.heap[y0.heap.size]? = some (.cells #[.int .i64 3, .slice vhA 3 vhc, .slice vuA 0 vuc, .slice vaA 1 vac, .slice vkA 1 vkc, .int .i64 2, .slice voA 0 voc] 27 (0, 0)) := by rw [HW0.out]; exact heap_alloc_new y0 _
 obtain ⟨bc, hbc⟩ : ∃ bc, bc = y0.heap.size := ⟨_, rfl⟩
 rw [← hbc]
 rw [← hbc] at hax
 clear hbc
 have HD0 : Hid (∀ z : Bl W0, Below w.heap.size w z.val) := fun z => (HY0.out.1.trans (hba.mono HY0.out.1.size)).trans (z.prop.mono (Nat.le_trans HY0.out.1.size hba.size))
 have HC0 : Hid (∀ z : Bl W0, ConAt z.val (⟨⟨vhA, vhc⟩, ⟨vuA, vuc⟩, ⟨vaA, vac⟩, ⟨vkA, vkc⟩, ⟨voA, voc⟩⟩ : CV) exC) := fun z => HY0.out.2.below (Below.step hba z.prop)
 have bc_0 : ∀ z : Bl W0, z.val.cell? ⟨bc, 0, none⟩ = some (.int .i64 3) := fun z => z.cell ((cell_of_row W0 _ 0 _ _ _ hax).trans rfl)
 have bc_1 : ∀ z : Bl W0, z.val.cell? ⟨bc, 1, none⟩ = some (.slice vhA 3 vhc) := fun z => z.cell ((cell_of_row W0 _ 1 _ _ _ hax).trans rfl)
 have bc_2 : ∀ z : Bl W0, z.val.cell? ⟨bc, 2, none⟩ = some (.slice vuA 0 vuc) := fun z => z.cell ((cell_of_row W0 _ 2 _ _ _ hax).trans rfl)
 have bc_3 : ∀ z : Bl W0, z.val.cell? ⟨bc, 3, none⟩ = some (.slice vaA 1 vac) := fun z => z.cell ((cell_of_row W0 _ 3 _ _ _ hax).trans rfl)
 have bc_4 : ∀ z : Bl W0, z.val.cell? ⟨bc, 4, none⟩ = some (.slice vkA 1 vkc) := fun z => z.cell ((cell_of_row W0 _ 4 _ _ _ hax).trans rfl)
 have bc_5 : ∀ z : Bl W0, z.val.cell? ⟨bc, 5, none⟩ = some (.int .i64 2) := fun z => z.cell ((cell_of_row W0 _ 5 _ _ _ hax).trans rfl)
 have bc_6 : ∀ z : Bl W0, z.val.cell? ⟨bc, 6, none⟩ = some (.slice voA 0 voc) := fun z => z.cell ((cell_of_row W0 _ 6 _ _ _ hax).trans rfl)
 clear hax hba
 obtain ⟨s0, hs0⟩ : ∃ s0 : Bl W0, s0.val = W0 := ⟨⟨W0, Below.refl _ _⟩, rfl⟩
 rw [← hs0]
 clear hs0
 have HCALL : Hid (∀ z : Bl W0, Calls Tryz.prog 33 #[.agg #[.int .i64 3, .slice vhA 3 vhc, .slice vuA 0 vuc, .slice vaA 1 vac, .slice vkA 1 vkc, .int .i64 2, .slice voA 0 voc], .int .i64 1] z.val (BelIs 1 1 (fun r => r = [ex0]) z.val)) := fun z => exStart1 (⟨⟨vhA, vhc⟩, ⟨vuA, vuc⟩, ⟨vaA, vac⟩, ⟨vkA, vkc⟩, ⟨voA, voc⟩⟩ : CV) z.val (HC0.out z) (HT.out.below (HD0.out z))
 go_wp2_with (go_at_call 33; refine (HCALL.out _).mono ?_; rintro e y1 ⟨A1, c1, rfl, hb, hB⟩; refine Hid.out ?_)
 refine Lib.hid ?_
 obtain ⟨zb, HZB⟩ : ∃ zb : Bl W0, Hid (Below zb.val.heap.size zb.val y1 ∧ BAt y1 A1 1 c1 (fun r => r = [ex0])) := ⟨_, hb, hB⟩
 clear hb hB HCALL
 go_upto_region 3 with (fail)
 obtain ⟨W1, HW1⟩ : ∃ W1, Hid (W1 = y1.alloc (.cells #[.int .i64 1, .slice A1 1 c1] 30)) := ⟨_, rfl⟩
 rw [← HW1.out]
 have hba : Below y1.heap.size y1 W1 := by rw [HW1.out]; exact Below.alloc' (Below.refl _ _) _
 have hax : W1.heap[y1.heap.size]? = some (.cells #[.int .i64 1, .slice A1 1 c1] 30 (0, 0)) := by rw [HW1.out]; exact heap_alloc_new y1 _
 obtain ⟨ba, hba⟩ : ∃ ba, ba = y1.heap.size := ⟨_, rfl⟩
 rw [← hba]
 rw [← hba] at hax
 clear hba
 have HP : Hid (Below W0.heap.size W0 W1) := Below.step (Below.step zb.prop HZB.out.1) hba
 have HD1 : Hid (∀ z : Bl W1, Below w.heap.size w z.val) := fun z => HD0.out ⟨z.val, Below.step HP.out z.prop⟩
 have HC1 : Hid (∀ z : Bl W1, ConAt z.val (⟨⟨vhA, vhc⟩, ⟨vuA, vuc⟩, ⟨vaA, vac⟩, ⟨vkA, vkc⟩, ⟨voA, voc⟩⟩ : CV) exC) := fun z => HC0.out ⟨z.val, Below.step HP.out z.prop⟩
 replace bc_0 : ∀ z : Bl W1, z.val.cell? ⟨bc, 0, none⟩ = some (.int .i64 3) := fun z => bc_0 ⟨z.val, Below.step HP.out z.prop⟩
 replace bc_1 : ∀ z : Bl W1, z.val.cell? ⟨bc, 1, none⟩ = some (.slice vhA 3 vhc) := fun z => bc_1 ⟨z.val, Below.step HP.out z.prop⟩
 replace bc_2 : ∀ z : Bl W1, z.val.cell? ⟨bc, 2, none⟩ = some (.slice vuA 0 vuc) := fun z => bc_2 ⟨z.val, Below.step HP.out z.prop⟩
 replace bc_3 : ∀ z : Bl W1, z.val.cell? ⟨bc, 3, none⟩ = some (.slice vaA 1 vac) := fun z => bc_3 ⟨z.val, Below.step HP.out z.prop⟩
 replace bc_4 : ∀ z : Bl W1, z.val.cell? ⟨bc, 4, none⟩ = some (.slice vkA 1 vkc) := fun z => bc_4 ⟨z.val, Below.step HP.out z.prop⟩
 replace bc_5 : ∀ z : Bl W1, z.val.cell? ⟨bc, 5, none⟩ = some (.int .i64 2) := fun z => bc_5 ⟨z.val, Below.step HP.out z.prop⟩
 replace bc_6 : ∀ z : Bl W1, z.val.cell? ⟨bc, 6, none⟩ = some (.slice voA 0 voc) := fun z => bc_6 ⟨z.val, Below.step HP.out z.prop⟩
 have ba_0 : ∀ z : Bl W1, z.val.cell? ⟨ba, 0, none⟩ = some (.int .i64 1) := fun z => z.cell ((cell_of_row W1 _ 0 _ _ _ hax).trans rfl)
 have ba_1 : ∀ z : Bl W1, z.val.cell? ⟨ba, 1, none⟩ = some (.slice A1 1 c1) := fun z => z.cell ((cell_of_row W1 _ 1 _ _ _ hax).trans rfl)
 have HBA : Hid (∀ z : Bl W1, BAt z.val A1 1 c1 (fun r => r = [ex0])) := fun z => HZB.out.2.below (Below.step hba z.prop)
 clear hax hba
 obtain ⟨s1, hs1⟩ : ∃ s1 : Bl W1, s1.val = W1 := ⟨⟨W1, Below.refl _ _⟩, rfl⟩
 rw [← hs1]
 clear hs1
 clear HP HZB zb HW0 HC0 HD0
 have HCALL : Hid (∀ z : Bl W1, Calls Tryz.prog 33 #[.agg #[.int .i64 3, .slice vhA 3 vhc, .slice vuA 0 vuc, .slice vaA 1 vac, .slice vkA 1 vkc, .int .i64 2, .slice voA 0 voc], .int .i64 2] z.val (BelIs 2 2 (Is2 ex0 exS) z.val)) := fun z => exStart2 (⟨⟨vhA, vhc⟩, ⟨vuA, vuc⟩, ⟨vaA, vac⟩, ⟨vkA, vkc⟩, ⟨voA, voc⟩⟩ : CV) z.val (HC1.out z) (HT.out.below (HD1.out z))
 go_wp2_with (go_at_call 33; refine (HCALL.out _).mono ?_; rintro e y2 ⟨A2, c2, rfl, hb, hB⟩; refine Hid.out ?_)
 refine Lib.hid ?_
 obtain ⟨zb, HZB⟩ : ∃ zb : Bl W1, Hid (Below zb.val.heap.size zb.val y2 ∧ BAt y2 A2 2 c2 (Is2 ex0 exS)) := ⟨_, hb, hB⟩
 clear hb hB HCALL
 go_upto_region 4 with (fail)
 obtain ⟨W2, HW2⟩ : ∃ W2, Hid (W2 = y2.alloc (.cells #[.int .i64 2, .slice A2 2 c2] 30)) := ⟨_, rfl⟩
 rw [← HW2.out]
 have hba : Below y2.heap.size y2 W2 := by rw [HW2.out]; exact Below.alloc' (Below.refl _ _) _
 have hax : W2.heap[y2.heap.size]? = some (.cells #[.int .i64 2, .slice A2 2 c2] 30 (0, 0)) := by rw [HW2.out]; exact heap_alloc_new y2 _
 obtain ⟨bb, hbb⟩ : ∃ bb, bb = y2.heap.size := ⟨_, rfl⟩
 rw [← hbb]
 rw [← hbb] at hax
 clear hbb
 have HP : Hid (Below W1.heap.size W1 W2) := Below.step (Below.step zb.prop HZB.out.1) hba
 have HD2 : Hid (∀ z : Bl W2, Below w.heap.size w z.val) := fun z => HD1.out ⟨z.val, Below.step HP.out z.prop⟩
 have HC2 : Hid (∀ z : Bl W2, ConAt z.val (⟨⟨vhA, vhc⟩, ⟨vuA, vuc⟩, ⟨vaA, vac⟩, ⟨vkA, vkc⟩, ⟨voA, voc⟩⟩ : CV) exC) := fun z => HC1.out ⟨z.val, Below.step HP.out z.prop⟩
 replace bc_0 : ∀ z : Bl W2, z.val.cell? ⟨bc, 0, none⟩ = some (.int .i64 3) := fun z => bc_0 ⟨z.val, Below.step HP.out z.prop⟩
 replace bc_1 : ∀ z : Bl W2, z.val.cell? ⟨bc, 1, none⟩ = some (.slice vhA 3 vhc) := fun z => bc_1 ⟨z.val, Below.step HP.out z.prop⟩
 replace bc_2 : ∀ z : Bl W2, z.val.cell? ⟨bc, 2, none⟩ = some (.slice vuA 0 vuc) := fun z => bc_2 ⟨z.val, Below.step HP.out z.prop⟩
 replace bc_3 : ∀ z : Bl W2, z.val.cell? ⟨bc, 3, none⟩ = some (.slice vaA 1 vac) := fun z => bc_3 ⟨z.val, Below.step HP.out z.prop⟩
 replace bc_4 : ∀ z : Bl W2, z.val.cell? ⟨bc, 4, none⟩ = some (.slice vkA 1 vkc) := fun z => bc_4 ⟨z.val, Below.step HP.out z.prop⟩
 replace bc_5 : ∀ z : Bl W2, z.val.cell? ⟨bc, 5, none⟩ = some (.int .i64 2) := fun z => bc_5 ⟨z.val, Below.step HP.out z.prop⟩
 replace bc_6 : ∀ z : Bl W2, z.val.cell? ⟨bc, 6, none⟩ = some (.slice voA 0 voc) := fun z => bc_6 ⟨z.val, Below.step HP.out z.prop⟩
 replace ba_0 : ∀ z : Bl W2, z.val.cell? ⟨ba, 0, none⟩ = some (.int .i64 1) := fun z => ba_0 ⟨z.val, Below.step HP.out z.prop⟩
 replace ba_1 : ∀ z : Bl W2, z.val.cell? ⟨ba, 1, none⟩ = some (.slice A1 1 c1) := fun z => ba_1 ⟨z.val, Below.step HP.out z.prop⟩
 replace HBA : Hid (∀ z : Bl W2, BAt z.val A1 1 c1 (fun r => r = [ex0])) := fun z => HBA.out ⟨z.val, Below.step HP.out z.prop⟩
 have bb_0 : ∀ z : Bl W2, z.val.cell? ⟨bb, 0, none⟩ = some (.int .i64 2) := fun z => z.cell ((cell_of_row W2 _ 0 _ _ _ hax).trans rfl)
 have bb_1 : ∀ z : Bl W2, z.val.cell? ⟨bb, 1, none⟩ = some (.slice A2 2 c2) := fun z => z.cell ((cell_of_row W2 _ 1 _ _ _ hax).trans rfl)
 have HBB : Hid (∀ z : Bl W2, BAt z.val A2 2 c2 (Is2 ex0 exS)) := fun z => HZB.out.2.below (Below.step hba z.prop)
 clear hax hba
 obtain ⟨s2, hs2⟩ : ∃ s2 : Bl W2, s2.val = W2 := ⟨⟨W2, Below.refl _ _⟩, rfl⟩
 rw [← hs2]
 clear hs2
 clear HP HZB zb HW1 HC1 HD1
 have HCALL : Hid (∀ z : Bl W2, Calls Tryz.prog 18 #[.agg #[.int .i64 3, .slice vhA 3 vhc, .slice vuA 0 vuc, .slice vaA 1 vac, .slice vkA 1 vkc, .int .i64 2, .slice voA 0 voc], .int .i64 2, .slice (some ⟨z.val.heap.size, 0, none⟩) 1 1] (z.val.alloc (.cells #[.int .i64 (-1)] 3)) (BelIs 2 2 (Is2 exT exU) (z.val.alloc (.cells #[.int .i64 (-1)] 3)))) := fun z => exWatch2 (⟨⟨vhA, vhc⟩, ⟨vuA, vuc⟩, ⟨vaA, vac⟩, ⟨vkA, vkc⟩, ⟨voA, voc⟩⟩ : CV) (some ⟨z.val.heap.size, 0, none⟩) 1 (z.val.alloc (.cells #[.int .i64 (-1)] 3)) ((HC2.out z).below (Below.alloc' (Below.refl _ _) _)) (at_row (heap_alloc_new z.val _) rfl (by decide) (by unfold maxLen; decide)) (HT.out.below (Below.step (HD2.out z) (Below.alloc' (Below.refl _ _) _)))
 go_wp2_with (go_at_call 18; refine (HCALL.out _).mono ?_; rintro e y3 ⟨A3, c3, rfl, hb, hB⟩; refine Hid.out ?_)
 refine Lib.hid ?_
 obtain ⟨zb, HZB⟩ : ∃ zb : Bl W2, Hid (Below zb.val.heap.size zb.val y3 ∧ BAt y3 A3 2 c3 (Is2 exT exU)) := ⟨_, Below.step (Below.alloc' (Below.refl _ _) _) hb, hB⟩
 clear hb hB HCALL
 go_upto_region 5 with (fail)
 obtain ⟨W3, HW3⟩ : ∃ W3, Hid (W3 = y3.alloc (.cells #[.int .i64 2, .slice A3 2 c3] 30)) := ⟨_, rfl⟩
 rw [← HW3.out]
 have hba : Below y3.heap.size y3 W3 := by rw [HW3.out]; exact Below.alloc' (Below.refl _ _) _
 have hax : W3.heap[y3.heap.size]? = some (.cells #[.int .i64 2, .slice A3 2 c3] 30 (0, 0)) := by rw [HW3.out]; exact heap_alloc_new y3 _
 obtain ⟨bd, hbd⟩ : ∃ bd, bd = y3.heap.size := ⟨_, rfl⟩
 rw [← hbd]
 rw [← hbd] at hax
 clear hbd
 have HP : Hid (Below W2.heap.size W2 W3) := Below.step (Below.step zb.prop HZB.out.1) hba
 have HD3 : Hid (∀ z : Bl W3, Below w.heap.size w z.val) := fun z => HD2.out ⟨z.val, Below.step HP.out z.prop⟩
 have HC3 : Hid (∀ z : Bl W3, ConAt z.val (⟨⟨vhA, vhc⟩, ⟨vuA, vuc⟩, ⟨vaA, vac⟩, ⟨vkA, vkc⟩, ⟨voA, voc⟩⟩ : CV) exC) := fun z => HC2.out ⟨z.val, Below.step HP.out z.prop⟩
 replace bc_0 : ∀ z : Bl W3, z.val.cell? ⟨bc, 0, none⟩ = some (.int .i64 3) := fun z => bc_0 ⟨z.val, Below.step HP.out z.prop⟩
 replace bc_1 : ∀ z : Bl W3, z.val.cell? ⟨bc, 1, none⟩ = some (.slice vhA 3 vhc) := fun z => bc_1 ⟨z.val, Below.step HP.out z.prop⟩
 replace bc_2 : ∀ z : Bl W3, z.val.cell? ⟨bc, 2, none⟩ = some (.slice vuA 0 vuc) := fun z => bc_2 ⟨z.val, Below.step HP.out z.prop⟩
 replace bc_3 : ∀ z : Bl W3, z.val.cell? ⟨bc, 3, none⟩ = some (.slice vaA 1 vac) := fun z => bc_3 ⟨z.val, Below.step HP.out z.prop⟩
 replace bc_4 : ∀ z : Bl W3, z.val.cell? ⟨bc, 4, none⟩ = some (.slice vkA 1 vkc) := fun z => bc_4 ⟨z.val, Below.step HP.out z.prop⟩
 replace bc_5 : ∀ z : Bl W3, z.val.cell? ⟨bc, 5, none⟩ = some (.int .i64 2) := fun z => bc_5 ⟨z.val, Below.step HP.out z.prop⟩
 replace bc_6 : ∀ z : Bl W3, z.val.cell? ⟨bc, 6, none⟩ = some (.slice voA 0 voc) := fun z => bc_6 ⟨z.val, Below.step HP.out z.prop⟩
 replace ba_0 : ∀ z : Bl W3, z.val.cell? ⟨ba, 0, none⟩ = some (.int .i64 1) := fun z => ba_0 ⟨z.val, Below.step HP.out z.prop⟩
 replace ba_1 : ∀ z : Bl W3, z.val.cell? ⟨ba, 1, none⟩ = some (.slice A1 1 c1) := fun z => ba_1 ⟨z.val, Below.step HP.out z.prop⟩
 replace bb_0 : ∀ z : Bl W3, z.val.cell? ⟨bb, 0, none⟩ = some (.int .i64 2) := fun z => bb_0 ⟨z.val, Below.step HP.out z.prop⟩
 replace bb_1 : ∀ z : Bl W3, z.val.cell? ⟨bb, 1, none⟩ = some (.slice A2 2 c2) := fun z => bb_1 ⟨z.val, Below.step HP.out z.prop⟩
 replace HBA : Hid (∀ z : Bl W3, BAt z.val A1 1 c1 (fun r => r = [ex0])) := fun z => HBA.out ⟨z.val, Below.step HP.out z.prop⟩
 replace HBB : Hid (∀ z : Bl W3, BAt z.val A2 2 c2 (Is2 ex0 exS)) := fun z => HBB.out ⟨z.val, Below.step HP.out z.prop⟩
 have bd_0 : ∀ z : Bl W3, z.val.cell? ⟨bd, 0, none⟩ = some (.int .i64 2) := fun z => z.cell ((cell_of_row W3 _ 0 _ _ _ hax).trans rfl)
 have bd_1 : ∀ z : Bl W3, z.val.cell? ⟨bd, 1, none⟩ = some (.slice A3 2 c3) := fun z => z.cell ((cell_of_row W3 _ 1 _ _ _ hax).trans rfl)
 have HBD : Hid (∀ z : Bl W3, BAt z.val A3 2 c3 (Is2 exT exU)) := fun z => HZB.out.2.below (Below.step hba z.prop)
 clear hax hba
 obtain ⟨s3, hs3⟩ : ∃ s3 : Bl W3, s3.val = W3 := ⟨⟨W3, Below.refl _ _⟩, rfl⟩
 rw [← hs3]
 clear hs3
 clear HP HZB zb HW2 HC2 HD2
 have HCALL : Hid (∀ z : Bl W3, Calls Tryz.prog 18 #[.agg #[.int .i64 3, .slice vhA 3 vhc, .slice vuA 0 vuc, .slice vaA 1 vac, .slice vkA 1 vkc, .int .i64 2, .slice voA 0 voc], .int .i64 1, .slice (some ⟨z.val.heap.size, 0, none⟩) 1 1] (z.val.alloc (.cells #[.int .i64 (-1)] 3)) (BelIs 1 1 (fun r => r = [exT]) (z.val.alloc (.cells #[.int .i64 (-1)] 3)))) := fun z => exWatch1 (⟨⟨vhA, vhc⟩, ⟨vuA, vuc⟩, ⟨vaA, vac⟩, ⟨vkA, vkc⟩, ⟨voA, voc⟩⟩ : CV) (some ⟨z.val.heap.size, 0, none⟩) 1 (z.val.alloc (.cells #[.int .i64 (-1)] 3)) ((HC3.out z).below (Below.alloc' (Below.refl _ _) _)) (at_row (heap_alloc_new z.val _) rfl (by decide) (by unfold maxLen; decide)) (HT.out.below (Below.step (HD3.out z) (Below.alloc' (Below.refl _ _) _)))
 go_wp2_with (go_at_call 18; refine (HCALL.out _).mono ?_; rintro e y4 ⟨A4, c4, rfl, hb, hB⟩; refine Hid.out ?_)
 refine Lib.hid ?_
 obtain ⟨zb, HZB⟩ : ∃ zb : Bl W3, Hid (Below zb.val.heap.size zb.val y4 ∧ BAt y4 A4 1 c4 (fun r => r = [exT])) := ⟨_, Below.step (Below.alloc' (Below.refl _ _) _) hb, hB⟩
 clear hb hB HCALL
 go_upto_region 6 with (fail)
 obtain ⟨W4, HW4⟩ : ∃ W4, Hid (W4 = y4.alloc (.cells #[.int .i64 1, .slice A4 1 c4] 30)) := ⟨_, rfl⟩
 rw [← HW4.out]
 have hba : Below y4.heap.size y4 W4 := by rw [HW4.out]; exact Below.alloc' (Below.refl _ _) _
 have hax : W4.heap[y4.heap.size]? = some (.cells #[.int .i64 1, .slice A4 1 c4] 30 (0, 0)) := by rw [HW4.out]; exact heap_alloc_new y4 _
 obtain ⟨bx, hbx⟩ : ∃ bx, bx = y4.heap.size := ⟨_, rfl⟩
 rw [← hbx]
 rw [← hbx] at hax
 clear hbx
 have HP : Hid (Below W3.heap.size W3 W4) := Below.step (Below.step zb.prop HZB.out.1) hba
 have HD4 : Hid (∀ z : Bl W4, Below w.heap.size w z.val) := fun z => HD3.out ⟨z.val, Below.step HP.out z.prop⟩
 have HC4 : Hid (∀ z : Bl W4, ConAt z.val (⟨⟨vhA, vhc⟩, ⟨vuA, vuc⟩, ⟨vaA, vac⟩, ⟨vkA, vkc⟩, ⟨voA, voc⟩⟩ : CV) exC) := fun z => HC3.out ⟨z.val, Below.step HP.out z.prop⟩
 replace bc_0 : ∀ z : Bl W4, z.val.cell? ⟨bc, 0, none⟩ = some (.int .i64 3) := fun z => bc_0 ⟨z.val, Below.step HP.out z.prop⟩
 replace bc_1 : ∀ z : Bl W4, z.val.cell? ⟨bc, 1, none⟩ = some (.slice vhA 3 vhc) := fun z => bc_1 ⟨z.val, Below.step HP.out z.prop⟩
 replace bc_2 : ∀ z : Bl W4, z.val.cell? ⟨bc, 2, none⟩ = some (.slice vuA 0 vuc) := fun z => bc_2 ⟨z.val, Below.step HP.out z.prop⟩
 replace bc_3 : ∀ z : Bl W4, z.val.cell? ⟨bc, 3, none⟩ = some (.slice vaA 1 vac) := fun z => bc_3 ⟨z.val, Below.step HP.out z.prop⟩
 replace bc_4 : ∀ z : Bl W4, z.val.cell? ⟨bc, 4, none⟩ = some (.slice vkA 1 vkc) := fun z => bc_4 ⟨z.val, Below.step HP.out z.prop⟩
 replace bc_5 : ∀ z : Bl W4, z.val.cell? ⟨bc, 5, none⟩ = some (.int .i64 2) := fun z => bc_5 ⟨z.val, Below.step HP.out z.prop⟩
 replace bc_6 : ∀ z : Bl W4, z.val.cell? ⟨bc, 6, none⟩ = some (.slice voA 0 voc) := fun z => bc_6 ⟨z.val, Below.step HP.out z.prop⟩
 replace ba_0 : ∀ z : Bl W4, z.val.cell? ⟨ba, 0, none⟩ = some (.int .i64 1) := fun z => ba_0 ⟨z.val, Below.step HP.out z.prop⟩
 replace ba_1 : ∀ z : Bl W4, z.val.cell? ⟨ba, 1, none⟩ = some (.slice A1 1 c1) := fun z => ba_1 ⟨z.val, Below.step HP.out z.prop⟩
 replace bb_0 : ∀ z : Bl W4, z.val.cell? ⟨bb, 0, none⟩ = some (.int .i64 2) := fun z => bb_0 ⟨z.val, Below.step HP.out z.prop⟩
 replace bb_1 : ∀ z : Bl W4, z.val.cell? ⟨bb, 1, none⟩ = some (.slice A2 2 c2) := fun z => bb_1 ⟨z.val, Below.step HP.out z.prop⟩
 replace bd_0 : ∀ z : Bl W4, z.val.cell? ⟨bd, 0, none⟩ = some (.int .i64 2) := fun z => bd_0 ⟨z.val, Below.step HP.out z.prop⟩
 replace bd_1 : ∀ z : Bl W4, z.val.cell? ⟨bd, 1, none⟩ = some (.slice A3 2 c3) := fun z => bd_1 ⟨z.val, Below.step HP.out z.prop⟩
 replace HBA : Hid (∀ z : Bl W4, BAt z.val A1 1 c1 (fun r => r = [ex0])) := fun z => HBA.out ⟨z.val, Below.step HP.out z.prop⟩
 replace HBB : Hid (∀ z : Bl W4, BAt z.val A2 2 c2 (Is2 ex0 exS)) := fun z => HBB.out ⟨z.val, Below.step HP.out z.prop⟩
 replace HBD : Hid (∀ z : Bl W4, BAt z.val A3 2 c3 (Is2 exT exU)) := fun z => HBD.out ⟨z.val, Below.step HP.out z.prop⟩
 have bx_0 : ∀ z : Bl W4, z.val.cell? ⟨bx, 0, none⟩ = some (.int .i64 1) := fun z => z.cell ((cell_of_row W4 _ 0 _ _ _ hax).trans rfl)
 have bx_1 : ∀ z : Bl W4, z.val.cell? ⟨bx, 1, none⟩ = some (.slice A4 1 c4) := fun z => z.cell ((cell_of_row W4 _ 1 _ _ _ hax).trans rfl)
 have HBX : Hid (∀ z : Bl W4, BAt z.val A4 1 c4 (fun r => r = [exT])) := fun z => HZB.out.2.below (Below.step hba z.prop)
 clear hax hba
 obtain ⟨s4, hs4⟩ : ∃ s4 : Bl W4, s4.val = W4 := ⟨⟨W4, Below.refl _ _⟩, rfl⟩
 rw [← hs4]
 clear hs4
 clear HP HZB zb HW3 HC3 HD3
 have HCALL : Hid (∀ z : Bl W4, Calls Tryz.prog 18 #[.agg #[.int .i64 3, .slice vhA 3 vhc, .slice vuA 0 vuc, .slice vaA 1 vac, .slice vkA 1 vkc, .int .i64 2, .slice voA 0 voc], .int .i64 1, .slice (some ⟨z.val.heap.size, 0, none⟩) 2 2] (z.val.alloc (.cells #[.int .i64 0, .int .i64 (-1)] 3)) (BelIs 1 1 (fun r => r = [exU]) (z.val.alloc (.cells #[.int .i64 0, .int .i64 (-1)] 3)))) := fun z => exWatch3 (⟨⟨vhA, vhc⟩, ⟨vuA, vuc⟩, ⟨vaA, vac⟩, ⟨vkA, vkc⟩, ⟨voA, voc⟩⟩ : CV) (some ⟨z.val.heap.size, 0, none⟩) 2 (z.val.alloc (.cells #[.int .i64 0, .int .i64 (-1)] 3)) ((HC4.out z).below (Below.alloc' (Below.refl _ _) _)) (at_row (heap_alloc_new z.val _) rfl (by decide) (by unfold maxLen; decide)) (HT.out.below (Below.step (HD4.out z) (Below.alloc' (Below.refl _ _) _)))
 go_wp2_with (go_at_call 18; refine (HCALL.out _).mono ?_; rintro e y5 ⟨A5, c5, rfl, hb, hB⟩; refine Hid.out ?_)
 refine Lib.hid ?_
 obtain ⟨zb, HZB⟩ : ∃ zb : Bl W4, Hid (Below zb.val.heap.size zb.val y5 ∧ BAt y5 A5 1 c5 (fun r => r = [exU])) := ⟨_, Below.step (Below.alloc' (Below.refl _ _) _) hb, hB⟩
 clear hb hB HCALL
 go_upto_region 7 with (fail)
 obtain ⟨W5, HW5⟩ : ∃ W5, Hid (W5 = y5.alloc (.cells #[.int .i64 1, .slice A5 1 c5] 30)) := ⟨_, rfl⟩
 rw [← HW5.out]
 have hba : Below y5.heap.size y5 W5 := by rw [HW5.out]; exact Below.alloc' (Below.refl _ _) _
 have hax : W5.heap[y5.heap.size]? = some (.cells #[.int .i64 1, .slice A5 1 c5] 30 (0, 0)) := by rw [HW5.out]; exact heap_alloc_new y5 _
 obtain ⟨bw, hbw⟩ : ∃ bw, bw = y5.heap.size := ⟨_, rfl⟩
 rw [← hbw]
 rw [← hbw] at hax
 clear hbw
 have HP : Hid (Below W4.heap.size W4 W5) := Below.step (Below.step zb.prop HZB.out.1) hba
 have HD5 : Hid (∀ z : Bl W5, Below w.heap.size w z.val) := fun z => HD4.out ⟨z.val, Below.step HP.out z.prop⟩
 have HC5 : Hid (∀ z : Bl W5, ConAt z.val (⟨⟨vhA, vhc⟩, ⟨vuA, vuc⟩, ⟨vaA, vac⟩, ⟨vkA, vkc⟩, ⟨voA, voc⟩⟩ : CV) exC) := fun z => HC4.out ⟨z.val, Below.step HP.out z.prop⟩
 replace bc_0 : ∀ z : Bl W5, z.val.cell? ⟨bc, 0, none⟩ = some (.int .i64 3) := fun z => bc_0 ⟨z.val, Below.step HP.out z.prop⟩
 replace bc_1 : ∀ z : Bl W5, z.val.cell? ⟨bc, 1, none⟩ = some (.slice vhA 3 vhc) := fun z => bc_1 ⟨z.val, Below.step HP.out z.prop⟩
 replace bc_2 : ∀ z : Bl W5, z.val.cell? ⟨bc, 2, none⟩ = some (.slice vuA 0 vuc) := fun z => bc_2 ⟨z.val, Below.step HP.out z.prop⟩
 replace bc_3 : ∀ z : Bl W5, z.val.cell? ⟨bc, 3, none⟩ = some (.slice vaA 1 vac) := fun z => bc_3 ⟨z.val, Below.step HP.out z.prop⟩
 replace bc_4 : ∀ z : Bl W5, z.val.cell? ⟨bc, 4, none⟩ = some (.slice vkA 1 vkc) := fun z => bc_4 ⟨z.val, Below.step HP.out z.prop⟩
 replace bc_5 : ∀ z : Bl W5, z.val.cell? ⟨bc, 5, none⟩ = some (.int .i64 2) := fun z => bc_5 ⟨z.val, Below.step HP.out z.prop⟩
 replace bc_6 : ∀ z : Bl W5, z.val.cell? ⟨bc, 6, none⟩ = some (.slice voA 0 voc) := fun z => bc_6 ⟨z.val, Below.step HP.out z.prop⟩
 replace ba_0 : ∀ z : Bl W5, z.val.cell? ⟨ba, 0, none⟩ = some (.int .i64 1) := fun z => ba_0 ⟨z.val, Below.step HP.out z.prop⟩
 replace ba_1 : ∀ z : Bl W5, z.val.cell? ⟨ba, 1, none⟩ = some (.slice A1 1 c1) := fun z => ba_1 ⟨z.val, Below.step HP.out z.prop⟩
 replace bb_0 : ∀ z : Bl W5, z.val.cell? ⟨bb, 0, none⟩ = some (.int .i64 2) := fun z => bb_0 ⟨z.val, Below.step HP.out z.prop⟩
 replace bb_1 : ∀ z : Bl W5, z.val.cell? ⟨bb, 1, none⟩ = some (.slice A2 2 c2) := fun z => bb_1 ⟨z.val, Below.step HP.out z.prop⟩
 replace bd_0 : ∀ z : Bl W5, z.val.cell? ⟨bd, 0, none⟩ = some (.int .i64 2) := fun z => bd_0 ⟨z.val, Below.step HP.out z.prop⟩
 replace bd_1 : ∀ z : Bl W5, z.val.cell? ⟨bd, 1, none⟩ = some (.slice A3 2 c3) := fun z => bd_1 ⟨z.val, Below.step HP.out z.prop⟩
 replace bx_0 : ∀ z : Bl W5, z.val.cell? ⟨bx, 0, none⟩ = some (.int .i64 1) := fun z => bx_0 ⟨z.val, Below.step HP.out z.prop⟩
 replace bx_1 : ∀ z : Bl W5, z.val.cell? ⟨bx, 1, none⟩ = some (.slice A4 1 c4) := fun z => bx_1 ⟨z.val, Below.step HP.out z.prop⟩
 replace HBA : Hid (∀ z : Bl W5, BAt z.val A1 1 c1 (fun r => r = [ex0])) := fun z => HBA.out ⟨z.val, Below.step HP.out z.prop⟩
 replace HBB : Hid (∀ z : Bl W5, BAt z.val A2 2 c2 (Is2 ex0 exS)) := fun z => HBB.out ⟨z.val, Below.step HP.out z.prop⟩
 replace HBD : Hid (∀ z : Bl W5, BAt z.val A3 2 c3 (Is2 exT exU)) := fun z => HBD.out ⟨z.val, Below.step HP.out z.prop⟩
 replace HBX : Hid (∀ z : Bl W5, BAt z.val A4 1 c4 (fun r => r = [exT])) := fun z => HBX.out ⟨z.val, Below.step HP.out z.prop⟩
 have bw_0 : ∀ z : Bl W5, z.val.cell? ⟨bw, 0, none⟩ = some (.int .i64 1) := fun z => z.cell ((cell_of_row W5 _ 0 _ _ _ hax).trans rfl)
 have bw_1 : ∀ z : Bl W5, z.val.cell? ⟨bw, 1, none⟩ = some (.slice A5 1 c5) := fun z => z.cell ((cell_of_row W5 _ 1 _ _ _ hax).trans rfl)
 have HBY : Hid (∀ z : Bl W5, BAt z.val A5 1 c5 (fun r => r = [exU])) := fun z => HZB.out.2.below (Below.step hba z.prop)
 clear hax hba
 obtain ⟨s5, hs5⟩ : ∃ s5 : Bl W5, s5.val = W5 := ⟨⟨W5, Below.refl _ _⟩, rfl⟩
 rw [← hs5]
 clear hs5
 clear HP HZB zb HW4 HC4 HD4
 have HCALL : Hid (∀ z : Bl W5, Calls Tryz.prog 17 #[.agg #[.int .i64 3, .slice vhA 3 vhc, .slice vuA 0 vuc, .slice vaA 1 vac, .slice vkA 1 vkc, .int .i64 2, .slice voA 0 voc], .agg #[.int .i64 2, .slice A2 2 c2], .int .i64 0] z.val (SeeNone z.val)) := fun z => exSee (⟨⟨vhA, vhc⟩, ⟨vuA, vuc⟩, ⟨vaA, vac⟩, ⟨vkA, vkc⟩, ⟨voA, voc⟩⟩ : CV) A2 c2 z.val (HC5.out z) (HBB.out z) (HT.out.below (HD5.out z))
 go_wp2_with (go_at_call 17; refine (HCALL.out _).mono ?_; rintro e y6 ⟨rfl, hb⟩; refine Hid.out ?_)
 refine Lib.hid ?_
 obtain ⟨zb, HZB⟩ : ∃ zb : Bl W5, Hid (Below zb.val.heap.size zb.val y6) := ⟨_, hb⟩
 clear hb HCALL
 go_upto_region 8 with (fail)
 obtain ⟨W6, HW6⟩ : ∃ W6, Hid (W6 = y6.alloc (.cells #[.int .i64 0, .slice none 0 0] 30)) := ⟨_, rfl⟩
 rw [← HW6.out]
 have hba : Below y6.heap.size y6 W6 := by rw [HW6.out]; exact Below.alloc' (Below.refl _ _) _
 have hax : W6.heap[y6.heap.size]? = some (.cells #[.int .i64 0, .slice none 0 0] 30 (0, 0)) := by rw [HW6.out]; exact heap_alloc_new y6 _
 obtain ⟨bz, hbz⟩ : ∃ bz, bz = y6.heap.size := ⟨_, rfl⟩
 rw [← hbz]
 rw [← hbz] at hax
 clear hbz
 have HP : Hid (Below W5.heap.size W5 W6) := Below.step (Below.step zb.prop HZB.out) hba
 have HD6 : Hid (∀ z : Bl W6, Below w.heap.size w z.val) := fun z => HD5.out ⟨z.val, Below.step HP.out z.prop⟩
 have HC6 : Hid (∀ z : Bl W6, ConAt z.val (⟨⟨vhA, vhc⟩, ⟨vuA, vuc⟩, ⟨vaA, vac⟩, ⟨vkA, vkc⟩, ⟨voA, voc⟩⟩ : CV) exC) := fun z => HC5.out ⟨z.val, Below.step HP.out z.prop⟩
 replace bc_0 : ∀ z : Bl W6, z.val.cell? ⟨bc, 0, none⟩ = some (.int .i64 3) := fun z => bc_0 ⟨z.val, Below.step HP.out z.prop⟩
 replace bc_1 : ∀ z : Bl W6, z.val.cell? ⟨bc, 1, none⟩ = some (.slice vhA 3 vhc) := fun z => bc_1 ⟨z.val, Below.step HP.out z.prop⟩
 replace bc_2 : ∀ z : Bl W6, z.val.cell? ⟨bc, 2, none⟩ = some (.slice vuA 0 vuc) := fun z => bc_2 ⟨z.val, Below.step HP.out z.prop⟩
 replace bc_3 : ∀ z : Bl W6, z.val.cell? ⟨bc, 3, none⟩ = some (.slice vaA 1 vac) := fun z => bc_3 ⟨z.val, Below.step HP.out z.prop⟩
 replace bc_4 : ∀ z : Bl W6, z.val.cell? ⟨bc, 4, none⟩ = some (.slice vkA 1 vkc) := fun z => bc_4 ⟨z.val, Below.step HP.out z.prop⟩
 replace bc_5 : ∀ z : Bl W6, z.val.cell? ⟨bc, 5, none⟩ = some (.int .i64 2) := fun z => bc_5 ⟨z.val, Below.step HP.out z.prop⟩
 replace bc_6 : ∀ z : Bl W6, z.val.cell? ⟨bc, 6, none⟩ = some (.slice voA 0 voc) := fun z => bc_6 ⟨z.val, Below.step HP.out z.prop⟩
 replace ba_0 : ∀ z : Bl W6, z.val.cell? ⟨ba, 0, none⟩ = some (.int .i64 1) := fun z => ba_0 ⟨z.val, Below.step HP.out z.prop⟩
 replace ba_1 : ∀ z : Bl W6, z.val.cell? ⟨ba, 1, none⟩ = some (.slice A1 1 c1) := fun z => ba_1 ⟨z.val, Below.step HP.out z.prop⟩
 replace bb_0 : ∀ z : Bl W6, z.val.cell? ⟨bb, 0, none⟩ = some (.int .i64 2) := fun z => bb_0 ⟨z.val, Below.step HP.out z.prop⟩
 replace bb_1 : ∀ z : Bl W6, z.val.cell? ⟨bb, 1, none⟩ = some (.slice A2 2 c2) := fun z => bb_1 ⟨z.val, Below.step HP.out z.prop⟩
 replace bd_0 : ∀ z : Bl W6, z.val.cell? ⟨bd, 0, none⟩ = some (.int .i64 2) := fun z => bd_0 ⟨z.val, Below.step HP.out z.prop⟩
 replace bd_1 : ∀ z : Bl W6, z.val.cell? ⟨bd, 1, none⟩ = some (.slice A3 2 c3) := fun z => bd_1 ⟨z.val, Below.step HP.out z.prop⟩
 replace bx_0 : ∀ z : Bl W6, z.val.cell? ⟨bx, 0, none⟩ = some (.int .i64 1) := fun z => bx_0 ⟨z.val, Below.step HP.out z.prop⟩
 replace bx_1 : ∀ z : Bl W6, z.val.cell? ⟨bx, 1, none⟩ = some (.slice A4 1 c4) := fun z => bx_1 ⟨z.val, Below.step HP.out z.prop⟩
 replace bw_0 : ∀ z : Bl W6, z.val.cell? ⟨bw, 0, none⟩ = some (.int .i64 1) := fun z => bw_0 ⟨z.val, Below.step HP.out z.prop⟩
 replace bw_1 : ∀ z : Bl W6, z.val.cell? ⟨bw, 1, none⟩ = some (.slice A5 1 c5) := fun z => bw_1 ⟨z.val, Below.step HP.out z.prop⟩
 replace HBA : Hid (∀ z : Bl W6, BAt z.val A1 1 c1 (fun r => r = [ex0])) := fun z => HBA.out ⟨z.val, Below.step HP.out z.prop⟩
 replace HBB : Hid (∀ z : Bl W6, BAt z.val A2 2 c2 (Is2 ex0 exS)) := fun z => HBB.out ⟨z.val, Below.step HP.out z.prop⟩
 replace HBD : Hid (∀ z : Bl W6, BAt z.val A3 2 c3 (Is2 exT exU)) := fun z => HBD.out ⟨z.val, Below.step HP.out z.prop⟩
 replace HBX : Hid (∀ z : Bl W6, BAt z.val A4 1 c4 (fun r => r = [exT])) := fun z => HBX.out ⟨z.val, Below.step HP.out z.prop⟩
 replace HBY : Hid (∀ z : Bl W6, BAt z.val A5 1 c5 (fun r => r = [exU])) := fun z => HBY.out ⟨z.val, Below.step HP.out z.prop⟩
 have bz_0 : ∀ z : Bl W6, z.val.cell? ⟨bz, 0, none⟩ = some (.int .i64 0) := fun z => z.cell ((cell_of_row W6 _ 0 _ _ _ hax).trans rfl)
 have bz_1 : ∀ z : Bl W6, z.val.cell? ⟨bz, 1, none⟩ = some (.slice none 0 0) := fun z => z.cell ((cell_of_row W6 _ 1 _ _ _ hax).trans rfl)
 clear hax hba
 obtain ⟨s6, hs6⟩ : ∃ s6 : Bl W6, s6.val = W6 := ⟨⟨W6, Below.refl _ _⟩, rfl⟩
 rw [← hs6]
 clear hs6
 clear HP HZB zb HW5 HC5 HD5
 have HV1 : Hid (∀ z : Bl W6, Calls Tryz.prog 13 #[.agg #[.int .i64 3, .slice vhA 3 vhc, .slice vuA 0 vuc, .slice vaA 1 vac, .slice vkA 1 vkc, .int .i64 2, .slice voA 0 voc], .agg #[.int .i64 2, .slice A3 2 c3], .int .i64 0] z.val (RetB (.int .i64 0) z.val)) := fun z => exVerdict (⟨⟨vhA, vhc⟩, ⟨vuA, vuc⟩, ⟨vaA, vac⟩, ⟨vkA, vkc⟩, ⟨voA, voc⟩⟩ : CV) 2 0 0 A3 c3 z.val (HC6.out z) (HBD.out z) exV1
 have HB1 : Hid (∀ z : Bl W6, Calls Tryz.prog 15 #[.agg #[.int .i64 3, .slice vhA 3 vhc, .slice vuA 0 vuc, .slice vaA 1 vac, .slice vkA 1 vkc, .int .i64 2, .slice voA 0 voc], .agg #[.int .i64 2, .slice A3 2 c3], .int .i64 0] z.val (RetB (.int .i64 0) z.val)) := fun z => exBlames (⟨⟨vhA, vhc⟩, ⟨vuA, vuc⟩, ⟨vaA, vac⟩, ⟨vkA, vkc⟩, ⟨voA, voc⟩⟩ : CV) 2 0 0 A3 c3 z.val (HC6.out z) (HBD.out z) exB1
 have HV2 : Hid (∀ z : Bl W6, Calls Tryz.prog 13 #[.agg #[.int .i64 3, .slice vhA 3 vhc, .slice vuA 0 vuc, .slice vaA 1 vac, .slice vkA 1 vkc, .int .i64 2, .slice voA 0 voc], .agg #[.int .i64 1, .slice A4 1 c4], .int .i64 0] z.val (RetB (.int .i64 3) z.val)) := fun z => exVerdict (⟨⟨vhA, vhc⟩, ⟨vuA, vuc⟩, ⟨vaA, vac⟩, ⟨vkA, vkc⟩, ⟨voA, voc⟩⟩ : CV) 1 0 3 A4 c4 z.val (HC6.out z) (HBX.out z) exV2
 have HB2 : Hid (∀ z : Bl W6, Calls Tryz.prog 15 #[.agg #[.int .i64 3, .slice vhA 3 vhc, .slice vuA 0 vuc, .slice vaA 1 vac, .slice vkA 1 vkc, .int .i64 2, .slice voA 0 voc], .agg #[.int .i64 1, .slice A4 1 c4], .int .i64 0] z.val (RetB (.int .i64 3) z.val)) := fun z => exBlames (⟨⟨vhA, vhc⟩, ⟨vuA, vuc⟩, ⟨vaA, vac⟩, ⟨vkA, vkc⟩, ⟨voA, voc⟩⟩ : CV) 1 0 3 A4 c4 z.val (HC6.out z) (HBX.out z) exB2
 have HV3 : Hid (∀ z : Bl W6, Calls Tryz.prog 13 #[.agg #[.int .i64 3, .slice vhA 3 vhc, .slice vuA 0 vuc, .slice vaA 1 vac, .slice vkA 1 vkc, .int .i64 2, .slice voA 0 voc], .agg #[.int .i64 1, .slice A5 1 c5], .int .i64 0] z.val (RetB (.int .i64 1) z.val)) := fun z => exVerdict (⟨⟨vhA, vhc⟩, ⟨vuA, vuc⟩, ⟨vaA, vac⟩, ⟨vkA, vkc⟩, ⟨voA, voc⟩⟩ : CV) 1 0 1 A5 c5 z.val (HC6.out z) (HBY.out z) exV3
 have HV4 : Hid (∀ z : Bl W6, Calls Tryz.prog 13 #[.agg #[.int .i64 3, .slice vhA 3 vhc, .slice vuA 0 vuc, .slice vaA 1 vac, .slice vkA 1 vkc, .int .i64 2, .slice voA 0 voc], .agg #[.int .i64 1, .slice A1 1 c1], .int .i64 0] z.val (RetB (.int .i64 2) z.val)) := fun z => exVerdict (⟨⟨vhA, vhc⟩, ⟨vuA, vuc⟩, ⟨vaA, vac⟩, ⟨vkA, vkc⟩, ⟨voA, voc⟩⟩ : CV) 1 0 2 A1 c1 z.val (HC6.out z) (HBA.out z) exV4
 have HB3 : Hid (∀ z : Bl W6, Calls Tryz.prog 15 #[.agg #[.int .i64 3, .slice vhA 3 vhc, .slice vuA 0 vuc, .slice vaA 1 vac, .slice vkA 1 vkc, .int .i64 2, .slice voA 0 voc], .agg #[.int .i64 1, .slice A5 1 c5], .int .i64 0] z.val (RetB (.int .i64 2) z.val)) := fun z => exBlames (⟨⟨vhA, vhc⟩, ⟨vuA, vuc⟩, ⟨vaA, vac⟩, ⟨vkA, vkc⟩, ⟨voA, voc⟩⟩ : CV) 1 0 2 A5 c5 z.val (HC6.out z) (HBY.out z) exB3
 have HV5 : Hid (∀ z : Bl W6, Calls Tryz.prog 13 #[.agg #[.int .i64 3, .slice vhA 3 vhc, .slice vuA 0 vuc, .slice vaA 1 vac, .slice vkA 1 vkc, .int .i64 2, .slice voA 0 voc], .agg #[.int .i64 1, .slice A1 1 c1], .int .i64 1] z.val (RetB (.int .i64 0) z.val)) := fun z => exVerdict (⟨⟨vhA, vhc⟩, ⟨vuA, vuc⟩, ⟨vaA, vac⟩, ⟨vkA, vkc⟩, ⟨voA, voc⟩⟩ : CV) 1 1 0 A1 c1 z.val (HC6.out z) (HBA.out z) exV5
 go_wp2_with (go_at_call 13; refine (HV1.out _).mono ?_; rintro e z ⟨rfl, hz⟩; obtain ⟨z, rfl⟩ := Bl.on hz; clear hz; refine Hid.out ?_)
 refine Lib.hid ?_
 go_wp2_with (go_at_call 15; refine (HB1.out _).mono ?_; rintro e z ⟨rfl, hz⟩; obtain ⟨z, rfl⟩ := Bl.on hz; clear hz; refine Hid.out ?_)
 refine Lib.hid ?_
 go_wp2_with (go_at_call 13; refine (HV2.out _).mono ?_; rintro e z ⟨rfl, hz⟩; obtain ⟨z, rfl⟩ := Bl.on hz; clear hz; refine Hid.out ?_)
 refine Lib.hid ?_
 go_wp2_with (go_at_call 15; refine (HB2.out _).mono ?_; rintro e z ⟨rfl, hz⟩; obtain ⟨z, rfl⟩ := Bl.on hz; clear hz; refine Hid.out ?_)
 refine Lib.hid ?_
 go_wp2_with (go_at_call 13; refine (HV3.out _).mono ?_; rintro e z ⟨rfl, hz⟩; obtain ⟨z, rfl⟩ := Bl.on hz; clear hz; refine Hid.out ?_)
 refine Lib.hid ?_
 go_wp2_with (go_at_call 13; refine (HV4.out _).mono ?_; rintro e z ⟨rfl, hz⟩; obtain ⟨z, rfl⟩ := Bl.on hz; clear hz; refine Hid.out ?_)
 refine Lib.hid ?_
 go_wp2_with (go_at_call 15; refine (HB3.out _).mono ?_; rintro e z ⟨rfl, hz⟩; obtain ⟨z, rfl⟩ := Bl.on hz; clear hz; refine Hid.out ?_)
 refine Lib.hid ?_
 go_wp2_with (go_at_call 13; refine (HV5.out _).mono ?_; rintro e z ⟨rfl, hz⟩; obtain ⟨z, rfl⟩ := Bl.on hz; clear hz; refine Hid.out ?_)
 refine Lib.hid ?_
 go_wp2
 go_ret
 exact ⟨rfl, HD6.out _⟩
end Go.Proofs.YtaielhafpmjkaaaGreatDoor
