/-
  Head; Run0
-/
import Derived.Test.YtaielhafpmjkaaaGreatDoorQ35
import Derived.Test.YtaielhafpmjkaaaGreatDoorQ32
import Derived.Test.YtaielhafpmjkaaaGreatDoorQ29
namespace Go.Proofs.YtaielhafpmjkaaaGreatDoor
open Go.RowKit Go.Shelf
set_option maxRecDepth 100000 in
set_option maxHeartbeats 8000000 in
theorem head_any (w : World) (hT : Tab w) : Calls Tryz.prog 11 #[] w (RetB (.bool true) w) := by
 have HT := Lib.hid hT; clear hT
 go_enter Tryz.func11, Tryz.ntmps11
 go_wp2_with (go_at_call 32; refine (example_any _).mono ?_; rintro e y0 ⟨vhA, vhc, vuA, vuc, vaA, vac, vkA, vkc, voA, voc, rfl, hcon, hb⟩; refine Hid.out ?_)
 refine Lib.hid ?_
 have HY0 : Hid (Below w.heap.size w y0 ∧ ConAt y0 (⟨⟨vhA, vhc⟩, ⟨vuA, vuc⟩, ⟨vaA, vac⟩, ⟨vkA, vkc⟩, ⟨voA, voc⟩⟩ : CV) exC) := ⟨hb, hcon⟩
 clear hb hcon
 have hval : CV.val (⟨⟨vhA, vhc⟩, ⟨vuA, vuc⟩, ⟨vaA, vac⟩, ⟨vkA, vkc⟩, ⟨voA, voc⟩⟩ : CV) exC = .agg #[.int .i64 3, .slice vhA 3 vhc, .slice vuA 0 vuc, .slice vaA 1 vac, .slice vkA 1 vkc, .int .i64 2, .slice voA 0 voc] := rfl
 rw [hval]
 clear hval
 go_upto_region 2 with (fail)
 obtain ⟨W0, HW0⟩ : ∃ W0, Hid (W0 = y0.alloc (.cells #[.int .i64 3, .slice vhA 3 vhc, .slice vuA 0 vuc, .slice vaA 1 vac, .slice vkA 1 vkc, .int .i64 2, .slice voA 0 voc] 27)) := ⟨_, rfl⟩
 rw [← HW0.out]
 have hba : Below y0.heap.size y0 W0 := by rw [HW0.out]; exact Below.alloc' (Below.refl _ _) _
 have hax : W0.heap[y0.heap.size]? = some (.cells #[.int .i64 3, .slice vhA 3 vhc, .slice vuA 0 vuc, .slice vaA 1 vac, .slice vkA 1 vkc, .int .i64 2, .slice voA 0 voc] 27 (0, 0)) := by rw [HW0.out]; exact heap_alloc_new y0 _
 obtain ⟨bc, hbc⟩ : ∃ bc, bc = y0.heap.size := ⟨_, rfl⟩
 rw [← hbc]
 rw [← hbc] at hax
 clear hbc
 have HD0 : Hid (∀ z : Bl W0, Below w.heap.size w z.val) := fun z => (HY0.out.1.trans (hba.mono HY0.out.1.size)).trans (z.prop.mono (Nat.le_trans HY0.out.1.size hba.size))
 have HC0 : Hid (∀ z : Bl W0, ConAt z.val (⟨⟨vhA, vhc⟩, ⟨vuA, vuc⟩, ⟨vaA, vac⟩, ⟨vkA, vkc⟩, ⟨voA, voc⟩⟩ : CV) exC) := fun z => HY0.out.2.below (Below.step hba z.prop)
 obtain ⟨bc_0, bc_1, bc_2, bc_3, bc_4, bc_5, bc_6⟩ := kc7 hax
 clear hax hba
 obtain ⟨s0, hs0⟩ : ∃ s0 : Bl W0, s0.val = W0 := ⟨⟨W0, Below.refl _ _⟩, rfl⟩
 rw [← hs0]
 clear hs0
 have HCALL : Hid (∀ z : Bl W0, Calls Tryz.prog 33 #[.agg #[.int .i64 3, .slice vhA 3 vhc, .slice vuA 0 vuc, .slice vaA 1 vac, .slice vkA 1 vkc, .int .i64 2, .slice voA 0 voc], .int .i64 1] z.val (BelIs 1 1 (fun r => r = [ex0]) z.val)) := fun z => exStart1 (⟨⟨vhA, vhc⟩, ⟨vuA, vuc⟩, ⟨vaA, vac⟩, ⟨vkA, vkc⟩, ⟨voA, voc⟩⟩ : CV) z.val (HC0.out z) (HT.out.below (HD0.out z))
 go_wp2_with (go_at_call 33; refine (HCALL.out _).mono ?_; rintro e y1 ⟨A1, c1, rfl, hb, hB⟩; refine Hid.out ?_)
 refine Lib.hid ?_
 obtain ⟨zb, HZB⟩ : ∃ zb : Bl W0, Hid (Below zb.val.heap.size zb.val y1 ∧ BAt y1 A1 1 c1 (fun r => r = [ex0])) := ⟨_, hb, hB⟩
 clear hb hB HCALL
 go_upto_region 3 with (fail)
 obtain ⟨W1, HW1⟩ : ∃ W1, Hid (W1 = y1.alloc (.cells #[.int .i64 1, .slice A1 1 c1] 30)) := ⟨_, rfl⟩
 rw [← HW1.out]
 have hba : Below y1.heap.size y1 W1 := by rw [HW1.out]; exact Below.alloc' (Below.refl _ _) _
 have hax : W1.heap[y1.heap.size]? = some (.cells #[.int .i64 1, .slice A1 1 c1] 30 (0, 0)) := by rw [HW1.out]; exact heap_alloc_new y1 _
 obtain ⟨ba, hba⟩ : ∃ ba, ba = y1.heap.size := ⟨_, rfl⟩
 rw [← hba]
 rw [← hba] at hax
 clear hba
 have HP : Hid (Below W0.heap.size W0 W1) := Below.step (Below.step zb.prop HZB.out.1) hba
 have HD1 : Hid (∀ z : Bl W1, Below w.heap.size w z.val) := fun z => HD0.out ⟨z.val, Below.step HP.out z.prop⟩
 have HC1 : Hid (∀ z : Bl W1, ConAt z.val (⟨⟨vhA, vhc⟩, ⟨vuA, vuc⟩, ⟨vaA, vac⟩, ⟨vkA, vkc⟩, ⟨voA, voc⟩⟩ : CV) exC) := fun z => HC0.out ⟨z.val, Below.step HP.out z.prop⟩
 replace bc_0 : ∀ z : Bl W1, z.val.cell? ⟨bc, 0, none⟩ = some (.int .i64 3) := fun z => bc_0 ⟨z.val, Below.step HP.out z.prop⟩
 replace bc_1 : ∀ z : Bl W1, z.val.cell? ⟨bc, 1, none⟩ = some (.slice vhA 3 vhc) := fun z => bc_1 ⟨z.val, Below.step HP.out z.prop⟩
 replace bc_2 : ∀ z : Bl W1, z.val.cell? ⟨bc, 2, none⟩ = some (.slice vuA 0 vuc) := fun z => bc_2 ⟨z.val, Below.step HP.out z.prop⟩
 replace bc_3 : ∀ z : Bl W1, z.val.cell? ⟨bc, 3, none⟩ = some (.slice vaA 1 vac) := fun z => bc_3 ⟨z.val, Below.step HP.out z.prop⟩
 replace bc_4 : ∀ z : Bl W1, z.val.cell? ⟨bc, 4, none⟩ = some (.slice vkA 1 vkc) := fun z => bc_4 ⟨z.val, Below.step HP.out z.prop⟩
 replace bc_5 : ∀ z : Bl W1, z.val.cell? ⟨bc, 5, none⟩ = some (.int .i64 2) := fun z => bc_5 ⟨z.val, Below.step HP.out z.prop⟩
 replace bc_6 : ∀ z : Bl W1, z.val.cell? ⟨bc, 6, none⟩ = some (.slice voA 0 voc) := fun z => bc_6 ⟨z.val, Below.step HP.out z.prop⟩
 obtain ⟨ba_0, ba_1⟩ := kc2 hax
 have HBA : Hid (∀ z : Bl W1, BAt z.val A1 1 c1 (fun r => r = [ex0])) := fun z => HZB.out.2.below (Below.step hba z.prop)
 clear hax hba
 obtain ⟨s1, hs1⟩ : ∃ s1 : Bl W1, s1.val = W1 := ⟨⟨W1, Below.refl _ _⟩, rfl⟩
 rw [← hs1]
 clear hs1
 clear HP HZB zb HW0 HC0 HD0
 have HCALL : Hid (∀ z : Bl W1, Calls Tryz.prog 33 #[.agg #[.int .i64 3, .slice vhA 3 vhc, .slice vuA 0 vuc, .slice vaA 1 vac, .slice vkA 1 vkc, .int .i64 2, .slice voA 0 voc], .int .i64 2] z.val (BelIs 2 2 (Is2 ex0 exS) z.val)) := fun z => exStart2 (⟨⟨vhA, vhc⟩, ⟨vuA, vuc⟩, ⟨vaA, vac⟩, ⟨vkA, vkc⟩, ⟨voA, voc⟩⟩ : CV) z.val (HC1.out z) (HT.out.below (HD1.out z))
 go_wp2_with (go_at_call 33; refine (HCALL.out _).mono ?_; rintro e y2 ⟨A2, c2, rfl, hb, hB⟩; refine Hid.out ?_)
 refine Lib.hid ?_
 obtain ⟨zb, HZB⟩ : ∃ zb : Bl W1, Hid (Below zb.val.heap.size zb.val y2 ∧ BAt y2 A2 2 c2 (Is2 ex0 exS)) := ⟨_, hb, hB⟩
 clear hb hB HCALL
 go_upto_region 4 with (fail)
 obtain ⟨W2, HW2⟩ : ∃ W2, Hid (W2 = y2.alloc (.cells #[.int .i64 2, .slice A2 2 c2] 30)) := ⟨_, rfl⟩
 rw [← HW2.out]
 have hba : Below y2.heap.size y2 W2 := by rw [HW2.out]; exact Below.alloc' (Below.refl _ _) _
 have hax : W2.heap[y2.heap.size]? = some (.cells #[.int .i64 2, .slice A2 2 c2] 30 (0, 0)) := by rw [HW2.out]; exact heap_alloc_new y2 _
 obtain ⟨bb, hbb⟩ : ∃ bb, bb = y2.heap.size := ⟨_, rfl⟩
 rw [← hbb]
 rw [← hbb] at hax
 clear hbb
 have HP : Hid (Below W1.heap.size W1 W2) := Below.step (Below.step zb.prop HZB.out.1) hba
 have HD2 : Hid (∀ z : Bl W2, Below w.heap.size w z.val) := fun z => HD1.out ⟨z.val, Below.step HP.out z.prop⟩
 have HC2 : Hid (∀ z : Bl W2, ConAt z.val (⟨⟨vhA, vhc⟩, ⟨vuA, vuc⟩, ⟨vaA, vac⟩, ⟨vkA, vkc⟩, ⟨voA, voc⟩⟩ : CV) exC) := fun z => HC1.out ⟨z.val, Below.step HP.out z.prop⟩
 replace bc_0 : ∀ z : Bl W2, z.val.cell? ⟨bc, 0, none⟩ = some (.int .i64 3) := fun z => bc_0 ⟨z.val, Below.step HP.out z.prop⟩
 replace bc_1 : ∀ z : Bl W2, z.val.cell? ⟨bc, 1, none⟩ = some (.slice vhA 3 vhc) := fun z => bc_1 ⟨z.val, Below.step HP.out z.prop⟩
 replace bc_2 : ∀ z : Bl W2, z.val.cell? ⟨bc, 2, none⟩ = some (.slice vuA 0 vuc) := fun z => bc_2 ⟨z.val, Below.step HP.out z.prop⟩
 replace bc_3 : ∀ z : Bl W2, z.val.cell? ⟨bc, 3, none⟩ = some (.slice vaA 1 vac) := fun z => bc_3 ⟨z.val, Below.step HP.out z.prop⟩
 replace bc_4 : ∀ z : Bl W2, z.val.cell? ⟨bc, 4, none⟩ = some (.slice vkA 1 vkc) := fun z => bc_4 ⟨z.val, Below.step HP.out z.prop⟩
 replace bc_5 : ∀ z : Bl W2, z.val.cell? ⟨bc, 5, none⟩ = some (.int .i64 2) := fun z => bc_5 ⟨z.val, Below.step HP.out z.prop⟩
 replace bc_6 : ∀ z : Bl W2, z.val.cell? ⟨bc, 6, none⟩ = some (.slice voA 0 voc) := fun z => bc_6 ⟨z.val, Below.step HP.out z.prop⟩
 replace ba_0 : ∀ z : Bl W2, z.val.cell? ⟨ba, 0, none⟩ = some (.int .i64 1) := fun z => ba_0 ⟨z.val, Below.step HP.out z.prop⟩
 replace ba_1 : ∀ z : Bl W2, z.val.cell? ⟨ba, 1, none⟩ = some (.slice A1 1 c1) := fun z => ba_1 ⟨z.val, Below.step HP.out z.prop⟩
 replace HBA : Hid (∀ z : Bl W2, BAt z.val A1 1 c1 (fun r => r = [ex0])) := fun z => HBA.out ⟨z.val, Below.step HP.out z.prop⟩
 obtain ⟨bb_0, bb_1⟩ := kc2 hax
 have HBB : Hid (∀ z : Bl W2, BAt z.val A2 2 c2 (Is2 ex0 exS)) := fun z => HZB.out.2.below (Below.step hba z.prop)
 clear hax hba
 obtain ⟨s2, hs2⟩ : ∃ s2 : Bl W2, s2.val = W2 := ⟨⟨W2, Below.refl _ _⟩, rfl⟩
 rw [← hs2]
 clear hs2
 clear HP HZB zb HW1 HC1 HD1
 have HCALL : Hid (∀ z : Bl W2, Calls Tryz.prog 18 #[.agg #[.int .i64 3, .slice vhA 3 vhc, .slice vuA 0 vuc, .slice vaA 1 vac, .slice vkA 1 vkc, .int .i64 2, .slice voA 0 voc], .int .i64 2, .slice (some ⟨z.val.heap.size, 0, none⟩) 1 1] (z.val.alloc (.cells #[.int .i64 (-1)] 3)) (BelIs 2 2 (Is2 exT exU) (z.val.alloc (.cells #[.int .i64 (-1)] 3)))) := fun z => exWatch2 (⟨⟨vhA, vhc⟩, ⟨vuA, vuc⟩, ⟨vaA, vac⟩, ⟨vkA, vkc⟩, ⟨voA, voc⟩⟩ : CV) (some ⟨z.val.heap.size, 0, none⟩) 1 (z.val.alloc (.cells #[.int .i64 (-1)] 3)) ((HC2.out z).below (Below.alloc' (Below.refl _ _) _)) (at_row (heap_alloc_new z.val _) rfl (by decide) (by unfold maxLen; decide)) (HT.out.below (Below.step (HD2.out z) (Below.alloc' (Below.refl _ _) _)))
 go_wp2_with (go_at_call 18; refine (HCALL.out _).mono ?_; rintro e y3 ⟨A3, c3, rfl, hb, hB⟩; refine Hid.out ?_)
 refine Lib.hid ?_
 obtain ⟨zb, HZB⟩ : ∃ zb : Bl W2, Hid (Below zb.val.heap.size zb.val y3 ∧ BAt y3 A3 2 c3 (Is2 exT exU)) := ⟨_, Below.step (Below.alloc' (Below.refl _ _) _) hb, hB⟩
 clear hb hB HCALL
 go_upto_region 5 with (fail)
 obtain ⟨W3, HW3⟩ : ∃ W3, Hid (W3 = y3.alloc (.cells #[.int .i64 2, .slice A3 2 c3] 30)) := ⟨_, rfl⟩
 rw [← HW3.out]
 have hba : Below y3.heap.size y3 W3 := by rw [HW3.out]; exact Below.alloc' (Below.refl _ _) _
 have hax : W3.heap[y3.heap.size]? = some (.cells #[.int .i64 2, .slice A3 2 c3] 30 (0, 0)) := by rw [HW3.out]; exact heap_alloc_new y3 _
 obtain ⟨bd, hbd⟩ : ∃ bd, bd = y3.heap.size := ⟨_, rfl⟩
 rw [← hbd]
 rw [← hbd] at hax
 clear hbd
 have HP : Hid (Below W2.heap.size W2 W3) := Below.step (Below.step zb.prop HZB.out.1) hba
 have HD3 : Hid (∀ z : Bl W3, Below w.heap.size w z.val) := fun z => HD2.out ⟨z.val, Below.step HP.out z.prop⟩
 have HC3 : Hid (∀ z : Bl W3, ConAt z.val (⟨⟨vhA, vhc⟩, ⟨vuA, vuc⟩, ⟨vaA, vac⟩, ⟨vkA, vkc⟩, ⟨voA, voc⟩⟩ : CV) exC) := fun z => HC2.out ⟨z.val, Below.step HP.out z.prop⟩
 replace bc_0 : ∀ z : Bl W3, z.val.cell? ⟨bc, 0, none⟩ = some (.int .i64 3) := fun z => bc_0 ⟨z.val, Below.step HP.out z.prop⟩
 replace bc_1 : ∀ z : Bl W3, z.val.cell? ⟨bc, 1, none⟩ = some (.slice vhA 3 vhc) := fun z => bc_1 ⟨z.val, Below.step HP.out z.prop⟩
 replace bc_2 : ∀ z : Bl W3, z.val.cell? ⟨bc, 2, none⟩ = some (.slice vuA 0 vuc) := fun z => bc_2 ⟨z.val, Below.step HP.out z.prop⟩
 replace bc_3 : ∀ z : Bl W3, z.val.cell? ⟨bc, 3, none⟩ = some (.slice vaA 1 vac) := fun z => bc_3 ⟨z.val, Below.step HP.out z.prop⟩
 replace bc_4 : ∀ z : Bl W3, z.val.cell? ⟨bc, 4, none⟩ = some (.slice vkA 1 vkc) := fun z => bc_4 ⟨z.val, Below.step HP.out z.prop⟩
 replace bc_5 : ∀ z : Bl W3, z.val.cell? ⟨bc, 5, none⟩ = some (.int .i64 2) := fun z => bc_5 ⟨z.val, Below.step HP.out z.prop⟩
 replace bc_6 : ∀ z : Bl W3, z.val.cell? ⟨bc, 6, none⟩ = some (.slice voA 0 voc) := fun z => bc_6 ⟨z.val, Below.step HP.out z.prop⟩
 replace ba_0 : ∀ z : Bl W3, z.val.cell? ⟨ba, 0, none⟩ = some (.int .i64 1) := fun z => ba_0 ⟨z.val, Below.step HP.out z.prop⟩
 replace ba_1 : ∀ z : Bl W3, z.val.cell? ⟨ba, 1, none⟩ = some (.slice A1 1 c1) := fun z => ba_1 ⟨z.val, Below.step HP.out z.prop⟩
 replace bb_0 : ∀ z : Bl W3, z.val.cell? ⟨bb, 0, none⟩ = some (.int .i64 2) := fun z => bb_0 ⟨z.val, Below.step HP.out z.prop⟩
 replace bb_1 : ∀ z : Bl W3, z.val.cell? ⟨bb, 1, none⟩ = some (.slice A2 2 c2) := fun z => bb_1 ⟨z.val, Below.step HP.out z.prop⟩
 replace HBA : Hid (∀ z : Bl W3, BAt z.val A1 1 c1 (fun r => r = [ex0])) := fun z => HBA.out ⟨z.val, Below.step HP.out z.prop⟩
 replace HBB : Hid (∀ z : Bl W3, BAt z.val A2 2 c2 (Is2 ex0 exS)) := fun z => HBB.out ⟨z.val, Below.step HP.out z.prop⟩
 obtain ⟨bd_0, bd_1⟩ := kc2 hax
 have HBD : Hid (∀ z : Bl W3, BAt z.val A3 2 c3 (Is2 exT exU)) := fun z => HZB.out.2.below (Below.step hba z.prop)
 clear hax hba
 obtain ⟨s3, hs3⟩ : ∃ s3 : Bl W3, s3.val = W3 := ⟨⟨W3, Below.refl _ _⟩, rfl⟩
 rw [← hs3]
 clear hs3
 clear HP HZB zb HW2 HC2 HD2
 have HCALL : Hid (∀ z : Bl W3, Calls Tryz.prog 18 #[.agg #[.int .i64 3, .slice vhA 3 vhc, .slice vuA 0 vuc, .slice vaA 1 vac, .slice vkA 1 vkc, .int .i64 2, .slice voA 0 voc], .int .i64 1, .slice (some ⟨z.val.heap.size, 0, none⟩) 1 1] (z.val.alloc (.cells #[.int .i64 (-1)] 3)) (BelIs 1 1 (fun r => r = [exT]) (z.val.alloc (.cells #[.int .i64 (-1)] 3)))) := fun z => exWatch1 (⟨⟨vhA, vhc⟩, ⟨vuA, vuc⟩, ⟨vaA, vac⟩, ⟨vkA, vkc⟩, ⟨voA, voc⟩⟩ : CV) (some ⟨z.val.heap.size, 0, none⟩) 1 (z.val.alloc (.cells #[.int .i64 (-1)] 3)) ((HC3.out z).below (Below.alloc' (Below.refl _ _) _)) (at_row (heap_alloc_new z.val _) rfl (by decide) (by unfold maxLen; decide)) (HT.out.below (Below.step (HD3.out z) (Below.alloc' (Below.refl _ _) _)))
 go_wp2_with (go_at_call 18; refine (HCALL.out _).mono ?_; rintro e y4 ⟨A4, c4, rfl, hb, hB⟩; refine Hid.out ?_)
 refine Lib.hid ?_
 obtain ⟨zb, HZB⟩ : ∃ zb : Bl W3, Hid (Below zb.val.heap.size zb.val y4 ∧ BAt y4 A4 1 c4 (fun r => r = [exT])) := ⟨_, Below.step (Below.alloc' (Below.refl _ _) _) hb, hB⟩
 clear hb hB HCALL
 go_upto_region 6 with (fail)
 obtain ⟨W4, HW4⟩ : ∃ W4, Hid (W4 = y4.alloc (.cells #[.int .i64 1, .slice A4 1 c4] 30)) := ⟨_, rfl⟩
 rw [← HW4.out]
 have hba : Below y4.heap.size y4 W4 := by rw [HW4.out]; exact Below.alloc' (Below.refl _ _) _
 have hax : W4.heap[y4.heap.size]? = some (.cells #[.int .i64 1, .slice A4 1 c4] 30 (0, 0)) := by rw [HW4.out]; exact heap_alloc_new y4 _
 obtain ⟨bx, hbx⟩ : ∃ bx, bx = y4.heap.size := ⟨_, rfl⟩
 rw [← hbx]
 rw [← hbx] at hax
 clear hbx
 have HP : Hid (Below W3.heap.size W3 W4) := Below.step (Below.step zb.prop HZB.out.1) hba
 have HD4 : Hid (∀ z : Bl W4, Below w.heap.size w z.val) := fun z => HD3.out ⟨z.val, Below.step HP.out z.prop⟩
 have HC4 : Hid (∀ z : Bl W4, ConAt z.val (⟨⟨vhA, vhc⟩, ⟨vuA, vuc⟩, ⟨vaA, vac⟩, ⟨vkA, vkc⟩, ⟨voA, voc⟩⟩ : CV) exC) := fun z => HC3.out ⟨z.val, Below.step HP.out z.prop⟩
 replace bc_0 : ∀ z : Bl W4, z.val.cell? ⟨bc, 0, none⟩ = some (.int .i64 3) := fun z => bc_0 ⟨z.val, Below.step HP.out z.prop⟩
 replace bc_1 : ∀ z : Bl W4, z.val.cell? ⟨bc, 1, none⟩ = some (.slice vhA 3 vhc) := fun z => bc_1 ⟨z.val, Below.step HP.out z.prop⟩
 replace bc_2 : ∀ z : Bl W4, z.val.cell? ⟨bc, 2, none⟩ = some (.slice vuA 0 vuc) := fun z => bc_2 ⟨z.val, Below.step HP.out z.prop⟩
 replace bc_3 : ∀ z : Bl W4, z.val.cell? ⟨bc, 3, none⟩ = some (.slice vaA 1 vac) := fun z => bc_3 ⟨z.val, Below.step HP.out z.prop⟩
 replace bc_4 : ∀ z : Bl W4, z.val.cell? ⟨bc, 4, none⟩ = some (.slice vkA 1 vkc) := fun z => bc_4 ⟨z.val, Below.step HP.out z.prop⟩
 replace bc_5 : ∀ z : Bl W4, z.val.cell? ⟨bc, 5, none⟩ = some (.int .i64 2) := fun z => bc_5 ⟨z.val, Below.step HP.out z.prop⟩
 replace bc_6 : ∀ z : Bl W4, z.val.cell? ⟨bc, 6, none⟩ = some (.slice voA 0 voc) := fun z => bc_6 ⟨z.val, Below.step HP.out z.prop⟩
 replace ba_0 : ∀ z : Bl W4, z.val.cell? ⟨ba, 0, none⟩ = some (.int .i64 1) := fun z => ba_0 ⟨z.val, Below.step HP.out z.prop⟩
 replace ba_1 : ∀ z : Bl W4, z.val.cell? ⟨ba, 1, none⟩ = some (.slice A1 1 c1) := fun z => ba_1 ⟨z.val, Below.step HP.out z.prop⟩
 replace bb_0 : ∀ z : Bl W4, z.val.cell? ⟨bb, 0, none⟩ = some (.int .i64 2) := fun z => bb_0 ⟨z.val, Below.step HP.out z.prop⟩
 replace bb_1 : ∀ z : Bl W4, z.val.cell? ⟨bb, 1, none⟩ = some (.slice A2 2 c2) := fun z => bb_1 ⟨z.val, Below.step HP.out z.prop⟩
 replace bd_0 : ∀ z : Bl W4, z.val.cell? ⟨bd, 0, none⟩ = some (.int .i64 2) := fun z => bd_0 ⟨z.val, Below.step HP.out z.prop⟩
 replace bd_1 : ∀ z : Bl W4, z.val.cell? ⟨bd, 1, none⟩ = some (.slice A3 2 c3) := fun z => bd_1 ⟨z.val, Below.step HP.out z.prop⟩
 replace HBA : Hid (∀ z : Bl W4, BAt z.val A1 1 c1 (fun r => r = [ex0])) := fun z => HBA.out ⟨z.val, Below.step HP.out z.prop⟩
 replace HBB : Hid (∀ z : Bl W4, BAt z.val A2 2 c2 (Is2 ex0 exS)) := fun z => HBB.out ⟨z.val, Below.step HP.out z.prop⟩
 replace HBD : Hid (∀ z : Bl W4, BAt z.val A3 2 c3 (Is2 exT exU)) := fun z => HBD.out ⟨z.val, Below.step HP.out z.prop⟩
 obtain ⟨bx_0, bx_1⟩ := kc2 hax
 have HBX : Hid (∀ z : Bl W4, BAt z.val A4 1 c4 (fun r => r = [exT])) := fun z => HZB.out.2.below (Below.step hba z.prop)
 clear hax hba
 obtain ⟨s4, hs4⟩ : ∃ s4 : Bl W4, s4.val = W4 := ⟨⟨W4, Below.refl _ _⟩, rfl⟩
 rw [← hs4]
 clear hs4
 clear HP HZB zb HW3 HC3 HD3
 have HCALL : Hid (∀ z : Bl W4, Calls Tryz.prog 18 #[.agg #[.int .i64 3, .slice vhA 3 vhc, .slice vuA 0 vuc, .slice vaA 1 vac, .slice vkA 1 vkc, .int .i64 2, .slice voA 0 voc], .int .i64 1, .slice (some ⟨z.val.heap.size, 0, none⟩) 2 2] (z.val.alloc (.cells #[.int .i64 0, .int .i64 (-1)] 3)) (BelIs 1 1 (fun r => r = [exU]) (z.val.alloc (.cells #[.int .i64 0, .int .i64 (-1)] 3)))) := fun z => exWatch3 (⟨⟨vhA, vhc⟩, ⟨vuA, vuc⟩, ⟨vaA, vac⟩, ⟨vkA, vkc⟩, ⟨voA, voc⟩⟩ : CV) (some ⟨z.val.heap.size, 0, none⟩) 2 (z.val.alloc (.cells #[.int .i64 0, .int .i64 (-1)] 3)) ((HC4.out z).below (Below.alloc' (Below.refl _ _) _)) (at_row (heap_alloc_new z.val _) rfl (by decide) (by unfold maxLen; decide)) (HT.out.below (Below.step (HD4.out z) (Below.alloc' (Below.refl _ _) _)))
 go_wp2_with (go_at_call 18; refine (HCALL.out _).mono ?_; rintro e y5 ⟨A5, c5, rfl, hb, hB⟩; refine Hid.out ?_)
 refine Lib.hid ?_
 obtain ⟨zb, HZB⟩ : ∃ zb : Bl W4, Hid (Below zb.val.heap.size zb.val y5 ∧ BAt y5 A5 1 c5 (fun r => r = [exU])) := ⟨_, Below.step (Below.alloc' (Below.refl _ _) _) hb, hB⟩
 clear hb hB HCALL
 go_upto_region 7 with (fail)
 obtain ⟨W5, HW5⟩ : ∃ W5, Hid (W5 = y5.alloc (.cells #[.int .i64 1, .slice A5 1 c5] 30)) := ⟨_, rfl⟩
 rw [← HW5.out]
 have hba : Below y5.heap.size y5 W5 := by rw [HW5.out]; exact Below.alloc' (Below.refl _ _) _
 have hax : W5.heap[y5.heap.size]? = some (.cells #[.int .i64 1, .slice A5 1 c5] 30 (0, 0)) := by rw [HW5.out]; exact heap_alloc_new y5 _
 obtain ⟨bw, hbw⟩ : ∃ bw, bw = y5.heap.size := ⟨_, rfl⟩
 rw [← hbw]
 rw [← hbw] at hax
 clear hbw
 have HP : Hid (Below W4.heap.size W4 W5) := Below.step (Below.step zb.prop HZB.out.1) hba
 have HD5 : Hid (∀ z : Bl W5, Below w.heap.size w z.val) := fun z => HD4.out ⟨z.val, Below.step HP.out z.prop⟩
 have HC5 : Hid (∀ z : Bl W5, ConAt z.val (⟨⟨vhA, vhc⟩, ⟨vuA, vuc⟩, ⟨vaA, vac⟩, ⟨vkA, vkc⟩, ⟨voA, voc⟩⟩ : CV) exC) := fun z => HC4.out ⟨z.val, Below.step HP.out z.prop⟩
 replace bc_0 : ∀ z : Bl W5, z.val.cell? ⟨bc, 0, none⟩ = some (.int .i64 3) := fun z => bc_0 ⟨z.val, Below.step HP.out z.prop⟩
 replace bc_1 : ∀ z : Bl W5, z.val.cell? ⟨bc, 1, none⟩ = some (.slice vhA 3 vhc) := fun z => bc_1 ⟨z.val, Below.step HP.out z.prop⟩
 replace bc_2 : ∀ z : Bl W5, z.val.cell? ⟨bc, 2, none⟩ = some (.slice vuA 0 vuc) := fun z => bc_2 ⟨z.val, Below.step HP.out z.prop⟩
 replace bc_3 : ∀ z : Bl W5, z.val.cell? ⟨bc, 3, none⟩ = some (.slice vaA 1 vac) := fun z => bc_3 ⟨z.val, Below.step HP.out z.prop⟩
 replace bc_4 : ∀ z : Bl W5, z.val.cell? ⟨bc, 4, none⟩ = some (.slice vkA 1 vkc) := fun z => bc_4 ⟨z.val, Below.step HP.out z.prop⟩
 replace bc_5 : ∀ z : Bl W5, z.val.cell? ⟨bc, 5, none⟩ = some (.int .i64 2) := fun z => bc_5 ⟨z.val, Below.step HP.out z.prop⟩
 replace bc_6 : ∀ z : Bl W5, z.val.cell? ⟨bc, 6, none⟩ = some (.slice voA 0 voc) := fun z => bc_6 ⟨z.val, Below.step HP.out z.prop⟩
 replace ba_0 : ∀ z : Bl W5, z.val.cell? ⟨ba, 0, none⟩ = some (.int .i64 1) := fun z => ba_0 ⟨z.val, Below.step HP.out z.prop⟩
 replace ba_1 : ∀ z : Bl W5, z.val.cell? ⟨ba, 1, none⟩ = some (.slice A1 1 c1) := fun z => ba_1 ⟨z.val, Below.step HP.out z.prop⟩
 replace bb_0 : ∀ z : Bl W5, z.val.cell? ⟨bb, 0, none⟩ = some (.int .i64 2) := fun z => bb_0 ⟨z.val, Below.step HP.out z.prop⟩
 replace bb_1 : ∀ z : Bl W5, z.val.cell? ⟨bb, 1, none⟩ = some (.slice A2 2 c2) := fun z => bb_1 ⟨z.val, Below.step HP.out z.prop⟩
 replace bd_0 : ∀ z : Bl W5, z.val.cell? ⟨bd, 0, none⟩ = some (.int .i64 2) := fun z => bd_0 ⟨z.val, Below.step HP.out z.prop⟩
 replace bd_1 : ∀ z : Bl W5, z.val.cell? ⟨bd, 1, none⟩ = some (.slice A3 2 c3) := fun z => bd_1 ⟨z.val, Below.step HP.out z.prop⟩
 replace bx_0 : ∀ z : Bl W5, z.val.cell? ⟨bx, 0, none⟩ = some (.int .i64 1) := fun z => bx_0 ⟨z.val, Below.step HP.out z.prop⟩
 replace bx_1 : ∀ z : Bl W5, z.val.cell? ⟨bx, 1, none⟩ = some (.slice A4 1 c4) := fun z => bx_1 ⟨z.val, Below.step HP.out z.prop⟩
 replace HBA : Hid (∀ z : Bl W5, BAt z.val A1 1 c1 (fun r => r = [ex0])) := fun z => HBA.out ⟨z.val, Below.step HP.out z.prop⟩
 replace HBB : Hid (∀ z : Bl W5, BAt z.val A2 2 c2 (Is2 ex0 exS)) := fun z => HBB.out ⟨z.val, Below.step HP.out z.prop⟩
 replace HBD : Hid (∀ z : Bl W5, BAt z.val A3 2 c3 (Is2 exT exU)) := fun z => HBD.out ⟨z.val, Below.step HP.out z.prop⟩
 replace HBX : Hid (∀ z : Bl W5, BAt z.val A4 1 c4 (fun r => r = [exT])) := fun z => HBX.out ⟨z.val, Below.step HP.out z.prop⟩
 obtain ⟨bw_0, bw_1⟩ := kc2 hax
 have HBY : Hid (∀ z : Bl W5, BAt z.val A5 1 c5 (fun r => r = [exU])) := fun z => HZB.out.2.below (Below.step hba z.prop)
 clear hax hba
 obtain ⟨s5, hs5⟩ : ∃ s5 : Bl W5, s5.val = W5 := ⟨⟨W5, Below.refl _ _⟩, rfl⟩
 rw [← hs5]
 clear hs5
 clear HP HZB zb HW4 HC4 HD4
 have HCALL : Hid (∀ z : Bl W5, Calls Tryz.prog 17 #[.agg #[.int .i64 3, .slice vhA 3 vhc, .slice vuA 0 vuc, .slice vaA 1 vac, .slice vkA 1 vkc, .int .i64 2, .slice voA 0 voc], .agg #[.int .i64 2, .slice A2 2 c2], .int .i64 0] z.val (SeeNone z.val)) := fun z => exSee (⟨⟨vhA, vhc⟩, ⟨vuA, vuc⟩, ⟨vaA, vac⟩, ⟨vkA, vkc⟩, ⟨voA, voc⟩⟩ : CV) A2 c2 z.val (HC5.out z) (HBB.out z) (HT.out.below (HD5.out z))
 go_wp2_with (go_at_call 17; refine (HCALL.out _).mono ?_; rintro e y6 ⟨rfl, hb⟩; refine Hid.out ?_)
 refine Lib.hid ?_
 obtain ⟨zb, HZB⟩ : ∃ zb : Bl W5, Hid (Below zb.val.heap.size zb.val y6) := ⟨_, hb⟩
 clear hb HCALL
 go_upto_region 8 with (fail)
 obtain ⟨W6, HW6⟩ : ∃ W6, Hid (W6 = y6.alloc (.cells #[.int .i64 0, .slice none 0 0] 30)) := ⟨_, rfl⟩
 rw [← HW6.out]
 have hba : Below y6.heap.size y6 W6 := by rw [HW6.out]; exact Below.alloc' (Below.refl _ _) _
 have hax : W6.heap[y6.heap.size]? = some (.cells #[.int .i64 0, .slice none 0 0] 30 (0, 0)) := by rw [HW6.out]; exact heap_alloc_new y6 _
 obtain ⟨bz, hbz⟩ : ∃ bz, bz = y6.heap.size := ⟨_, rfl⟩
 rw [← hbz]
 rw [← hbz] at hax
 clear hbz
 have HP : Hid (Below W5.heap.size W5 W6) := Below.step (Below.step zb.prop HZB.out) hba
 have HD6 : Hid (∀ z : Bl W6, Below w.heap.size w z.val) := fun z => HD5.out ⟨z.val, Below.step HP.out z.prop⟩
 have HC6 : Hid (∀ z : Bl W6, ConAt z.val (⟨⟨vhA, vhc⟩, ⟨vuA, vuc⟩, ⟨vaA, vac⟩, ⟨vkA, vkc⟩, ⟨voA, voc⟩⟩ : CV) exC) := fun z => HC5.out ⟨z.val, Below.step HP.out z.prop⟩
 replace bc_0 : ∀ z : Bl W6, z.val.cell? ⟨bc, 0, none⟩ = some (.int .i64 3) := fun z => bc_0 ⟨z.val, Below.step HP.out z.prop⟩
 replace bc_1 : ∀ z : Bl W6, z.val.cell? ⟨bc, 1, none⟩ = some (.slice vhA 3 vhc) := fun z => bc_1 ⟨z.val, Below.step HP.out z.prop⟩
 replace bc_2 : ∀ z : Bl W6, z.val.cell? ⟨bc, 2, none⟩ = some (.slice vuA 0 vuc) := fun z => bc_2 ⟨z.val, Below.step HP.out z.prop⟩
 replace bc_3 : ∀ z : Bl W6, z.val.cell? ⟨bc, 3, none⟩ = some (.slice vaA 1 vac) := fun z => bc_3 ⟨z.val, Below.step HP.out z.prop⟩
 replace bc_4 : ∀ z : Bl W6, z.val.cell? ⟨bc, 4, none⟩ = some (.slice vkA 1 vkc) := fun z => bc_4 ⟨z.val, Below.step HP.out z.prop⟩
 replace bc_5 : ∀ z : Bl W6, z.val.cell? ⟨bc, 5, none⟩ = some (.int .i64 2) := fun z => bc_5 ⟨z.val, Below.step HP.out z.prop⟩
 replace bc_6 : ∀ z : Bl W6, z.val.cell? ⟨bc, 6, none⟩ = some (.slice voA 0 voc) := fun z => bc_6 ⟨z.val, Below.step HP.out z.prop⟩
 replace ba_0 : ∀ z : Bl W6, z.val.cell? ⟨ba, 0, none⟩ = some (.int .i64 1) := fun z => ba_0 ⟨z.val, Below.step HP.out z.prop⟩
 replace ba_1 : ∀ z : Bl W6, z.val.cell? ⟨ba, 1, none⟩ = some (.slice A1 1 c1) := fun z => ba_1 ⟨z.val, Below.step HP.out z.prop⟩
 replace bb_0 : ∀ z : Bl W6, z.val.cell? ⟨bb, 0, none⟩ = some (.int .i64 2) := fun z => bb_0 ⟨z.val, Below.step HP.out z.prop⟩
 replace bb_1 : ∀ z : Bl W6, z.val.cell? ⟨bb, 1, none⟩ = some (.slice A2 2 c2) := fun z => bb_1 ⟨z.val, Below.step HP.out z.prop⟩
 replace bd_0 : ∀ z : Bl W6, z.val.cell? ⟨bd, 0, none⟩ = some (.int .i64 2) := fun z => bd_0 ⟨z.val, Below.step HP.out z.prop⟩
 replace bd_1 : ∀ z : Bl W6, z.val.cell? ⟨bd, 1, none⟩ = some (.slice A3 2 c3) := fun z => bd_1 ⟨z.val, Below.step HP.out z.prop⟩
 replace bx_0 : ∀ z : Bl W6, z.val.cell? ⟨bx, 0, none⟩ = some (.int .i64 1) := fun z => bx_0 ⟨z.val, Below.step HP.out z.prop⟩
 replace bx_1 : ∀ z : Bl W6, z.val.cell? ⟨bx, 1, none⟩ = some (.slice A4 1 c4) := fun z => bx_1 ⟨z.val, Below.step HP.out z.prop⟩
 replace bw_0 : ∀ z : Bl W6, z.val.cell? ⟨bw, 0, none⟩ = some (.int .i64 1) := fun z => bw_0 ⟨z.val, Below.step HP.out z.prop⟩
 replace bw_1 : ∀ z : Bl W6, z.val.cell? ⟨bw, 1, none⟩ = some (.slice A5 1 c5) := fun z => bw_1 ⟨z.val, Below.step HP.out z.prop⟩
 replace HBA : Hid (∀ z : Bl W6, BAt z.val A1 1 c1 (fun r => r = [ex0])) := fun z => HBA.out ⟨z.val, Below.step HP.out z.prop⟩
 replace HBB : Hid (∀ z : Bl W6, BAt z.val A2 2 c2 (Is2 ex0 exS)) := fun z => HBB.out ⟨z.val, Below.step HP.out z.prop⟩
 replace HBD : Hid (∀ z : Bl W6, BAt z.val A3 2 c3 (Is2 exT exU)) := fun z => HBD.out ⟨z.val, Below.step HP.out z.prop⟩
 replace HBX : Hid (∀ z : Bl W6, BAt z.val A4 1 c4 (fun r => r = [exT])) := fun z => HBX.out ⟨z.val, Below.step HP.out z.prop⟩
 replace HBY : Hid (∀ z : Bl W6, BAt z.val A5 1 c5 (fun r => r = [exU])) := fun z => HBY.out ⟨z.val, Below.step HP.out z.prop⟩
 obtain ⟨bz_0, bz_1⟩ := kc2 hax
 clear hax hba
 obtain ⟨s6, hs6⟩ : ∃ s6 : Bl W6, s6.val = W6 := ⟨⟨W6, Below.refl _ _⟩, rfl⟩
 rw [← hs6]
 clear hs6
 clear HP HZB zb HW5 HC5 HD5
 have HV1 : Hid (∀ z : Bl W6, Calls Tryz.prog 13 #[.agg #[.int .i64 3, .slice vhA 3 vhc, .slice vuA 0 vuc, .slice vaA 1 vac, .slice vkA 1 vkc, .int .i64 2, .slice voA 0 voc], .agg #[.int .i64 2, .slice A3 2 c3], .int .i64 0] z.val (RetB (.int .i64 0) z.val)) := fun z => exVerdict (⟨⟨vhA, vhc⟩, ⟨vuA, vuc⟩, ⟨vaA, vac⟩, ⟨vkA, vkc⟩, ⟨voA, voc⟩⟩ : CV) 2 0 0 A3 c3 z.val (HC6.out z) (HBD.out z) exV1
 have HB1 : Hid (∀ z : Bl W6, Calls Tryz.prog 15 #[.agg #[.int .i64 3, .slice vhA 3 vhc, .slice vuA 0 vuc, .slice vaA 1 vac, .slice vkA 1 vkc, .int .i64 2, .slice voA 0 voc], .agg #[.int .i64 2, .slice A3 2 c3], .int .i64 0] z.val (RetB (.int .i64 0) z.val)) := fun z => exBlames (⟨⟨vhA, vhc⟩, ⟨vuA, vuc⟩, ⟨vaA, vac⟩, ⟨vkA, vkc⟩, ⟨voA, voc⟩⟩ : CV) 2 0 0 A3 c3 z.val (HC6.out z) (HBD.out z) exB1
 have HV2 : Hid (∀ z : Bl W6, Calls Tryz.prog 13 #[.agg #[.int .i64 3, .slice vhA 3 vhc, .slice vuA 0 vuc, .slice vaA 1 vac, .slice vkA 1 vkc, .int .i64 2, .slice voA 0 voc], .agg #[.int .i64 1, .slice A4 1 c4], .int .i64 0] z.val (RetB (.int .i64 3) z.val)) := fun z => exVerdict (⟨⟨vhA, vhc⟩, ⟨vuA, vuc⟩, ⟨vaA, vac⟩, ⟨vkA, vkc⟩, ⟨voA, voc⟩⟩ : CV) 1 0 3 A4 c4 z.val (HC6.out z) (HBX.out z) exV2
 have HB2 : Hid (∀ z : Bl W6, Calls Tryz.prog 15 #[.agg #[.int .i64 3, .slice vhA 3 vhc, .slice vuA 0 vuc, .slice vaA 1 vac, .slice vkA 1 vkc, .int .i64 2, .slice voA 0 voc], .agg #[.int .i64 1, .slice A4 1 c4], .int .i64 0] z.val (RetB (.int .i64 3) z.val)) := fun z => exBlames (⟨⟨vhA, vhc⟩, ⟨vuA, vuc⟩, ⟨vaA, vac⟩, ⟨vkA, vkc⟩, ⟨voA, voc⟩⟩ : CV) 1 0 3 A4 c4 z.val (HC6.out z) (HBX.out z) exB2
 have HV3 : Hid (∀ z : Bl W6, Calls Tryz.prog 13 #[.agg #[.int .i64 3, .slice vhA 3 vhc, .slice vuA 0 vuc, .slice vaA 1 vac, .slice vkA 1 vkc, .int .i64 2, .slice voA 0 voc], .agg #[.int .i64 1, .slice A5 1 c5], .int .i64 0] z.val (RetB (.int .i64 1) z.val)) := fun z => exVerdict (⟨⟨vhA, vhc⟩, ⟨vuA, vuc⟩, ⟨vaA, vac⟩, ⟨vkA, vkc⟩, ⟨voA, voc⟩⟩ : CV) 1 0 1 A5 c5 z.val (HC6.out z) (HBY.out z) exV3
 have HV4 : Hid (∀ z : Bl W6, Calls Tryz.prog 13 #[.agg #[.int .i64 3, .slice vhA 3 vhc, .slice vuA 0 vuc, .slice vaA 1 vac, .slice vkA 1 vkc, .int .i64 2, .slice voA 0 voc], .agg #[.int .i64 1, .slice A1 1 c1], .int .i64 0] z.val (RetB (.int .i64 2) z.val)) := fun z => exVerdict (⟨⟨vhA, vhc⟩, ⟨vuA, vuc⟩, ⟨vaA, vac⟩, ⟨vkA, vkc⟩, ⟨voA, voc⟩⟩ : CV) 1 0 2 A1 c1 z.val (HC6.out z) (HBA.out z) exV4
 have HB3 : Hid (∀ z : Bl W6, Calls Tryz.prog 15 #[.agg #[.int .i64 3, .slice vhA 3 vhc, .slice vuA 0 vuc, .slice vaA 1 vac, .slice vkA 1 vkc, .int .i64 2, .slice voA 0 voc], .agg #[.int .i64 1, .slice A5 1 c5], .int .i64 0] z.val (RetB (.int .i64 2) z.val)) := fun z => exBlames (⟨⟨vhA, vhc⟩, ⟨vuA, vuc⟩, ⟨vaA, vac⟩, ⟨vkA, vkc⟩, ⟨voA, voc⟩⟩ : CV) 1 0 2 A5 c5 z.val (HC6.out z) (HBY.out z) exB3
 have HV5 : Hid (∀ z : Bl W6, Calls Tryz.prog 13 #[.agg #[.int .i64 3, .slice vhA 3 vhc, .slice vuA 0 vuc, .slice vaA 1 vac, .slice vkA 1 vkc, .int .i64 2, .slice voA 0 voc], .agg #[.int .i64 1, .slice A1 1 c1], .int .i64 1] z.val (RetB (.int .i64 0) z.val)) := fun z => exVerdict (⟨⟨vhA, vhc⟩, ⟨vuA, vuc⟩, ⟨vaA, vac⟩, ⟨vkA, vkc⟩, ⟨voA, voc⟩⟩ : CV) 1 1 0 A1 c1 z.val (HC6.out z) (HBA.out z) exV5
 go_wp2_with (go_at_call 13; refine (HV1.out _).mono ?_; rintro e z ⟨rfl, hz⟩; obtain ⟨z, rfl⟩ := Bl.on hz; clear hz; refine Hid.out ?_)
 refine Lib.hid ?_
 go_wp2_with (go_at_call 15; refine (HB1.out _).mono ?_; rintro e z ⟨rfl, hz⟩; obtain ⟨z, rfl⟩ := Bl.on hz; clear hz; refine Hid.out ?_)
 refine Lib.hid ?_
 go_wp2_with (go_at_call 13; refine (HV2.out _).mono ?_; rintro e z ⟨rfl, hz⟩; obtain ⟨z, rfl⟩ := Bl.on hz; clear hz; refine Hid.out ?_)
 refine Lib.hid ?_
 go_wp2_with (go_at_call 15; refine (HB2.out _).mono ?_; rintro e z ⟨rfl, hz⟩; obtain ⟨z, rfl⟩ := Bl.on hz; clear hz; refine Hid.out ?_)
 refine Lib.hid ?_
 go_wp2_with (go_at_call 13; refine (HV3.out _).mono ?_; rintro e z ⟨rfl, hz⟩; obtain ⟨z, rfl⟩ := Bl.on hz; clear hz; refine Hid.out ?_)
 refine Lib.hid ?_
 go_wp2_with (go_at_call 13; refine (HV4.out _).mono ?_; rintro e z ⟨rfl, hz⟩; obtain ⟨z, rfl⟩ := Bl.on hz; clear hz; refine Hid.out ?_)
 refine Lib.hid ?_
 go_wp2_with (go_at_call 15; refine (HB3.out _).mono ?_; rintro e z ⟨rfl, hz⟩; obtain ⟨z, rfl⟩ := Bl.on hz; clear hz; refine Hid.out ?_)
 refine Lib.hid ?_
 go_wp2_with (go_at_call 13; refine (HV5.out _).mono ?_; rintro e z ⟨rfl, hz⟩; obtain ⟨z, rfl⟩ := Bl.on hz; clear hz; refine Hid.out ?_)
 refine Lib.hid ?_
 go_wp2
 go_ret
 exact ⟨rfl, HD6.out _⟩
end Go.Proofs.YtaielhafpmjkaaaGreatDoor
namespace Go.Proofs.YtaielhafpmjkaaaGreatDoor
open Go.RowKit Go.Shelf
def KCon.att (C : KCon) (l : List Int) : KState := l.foldl (fun s x => C.next s x) C.first
structure Good (C : KCon) (l : List Int) : Prop where
 valid : C.valid = true
 len : l.length ≤ 4000
 legal : ∀ (k : Nat) (x : Int), l[k]? = some x → C.stepErr (C.att (l.take k)) x = 0
def KCon.trail (C : KCon) (l : List Int) (k : Nat) : List KState := (List.range (k + 1)).map (fun i => C.att (l.take i))
theorem att_nil (C : KCon) : C.att [] = C.first := rfl
theorem att_snoc (C : KCon) (l : List Int) (x : Int) : C.att (l ++ [x]) = C.next (C.att l) x := by unfold KCon.att; rw [List.foldl_append]; rfl
theorem att_succ {C : KCon} {l : List Int} {k : Nat} {x : Int} (h : l[k]? = some x) : C.att (l.take (k + 1)) = C.next (C.att (l.take k)) x := by
 rw [take_snoc' h, att_snoc]
theorem trail_zero (C : KCon) (l : List Int) : C.trail l 0 = [C.first] := rfl
theorem trail_len (C : KCon) (l : List Int) (k : Nat) : (C.trail l k).length = k + 1 := by simp [KCon.trail]
theorem trail_succ (C : KCon) (l : List Int) (k : Nat) : C.trail l (k + 1) = C.trail l k ++ [C.att (l.take (k + 1))] := by
 unfold KCon.trail
 rw [List.range_succ (n := k + 1), List.map_append]
 rfl
theorem trail_get {C : KCon} {l : List Int} {n k : Nat} (h : k ≤ n) : (C.trail l n)[k]? = some (C.att (l.take k)) := by
 unfold KCon.trail
 rw [List.getElem?_map, List.getElem?_range (by omega)]
 rfl
theorem stepErr_zero {C : KCon} {s : KState} {x : Int} (h : C.stepErr s x = 0) : StateOk C s ∧ s.day < C.days ∧ C.stepOk x ∧ StateOk C (C.next s x) := by
 unfold KCon.stepErr at h
 cases h1 : C.okState s with
 | false => rw [h1] at h; cases h
 | true =>
  have hO := (okState_iff C s).1 h1
  cases h2 : decide (x < -1) with
  | true => rw [h1, h2] at h; cases h
  | false =>
   cases h3 : decide ((C.acts.length : Int) ≤ x) with
   | true => rw [h1, h2, h3] at h; cases h
   | false =>
    cases h4 : (s.day == C.days) with
    | true => rw [h1, h2, h3, h4] at h; cases h
    | false =>
     rw [decide_eq_false_iff_not] at h2 h3
     rw [beq_eq_false_iff_ne] at h4
     have hd := hO.day1
     have hs : C.stepOk x := by
      by_cases e : x = -1
      · exact .inl e
      · exact .inr ⟨by omega, by omega⟩
     exact ⟨hO, by omega, hs, (step_fits hs hO (by omega)).2⟩
theorem Good.ok {C : KCon} {l : List Int} (h : Good C l) : ∀ k, k ≤ l.length → StateOk C (C.att (l.take k))
 | 0, _ => by rw [List.take_zero]; exact first_ok h.valid
 | k + 1, hk => by
  have hx := List.getElem?_eq_getElem (l := l) (i := k) (by omega)
  rw [att_succ hx]
  exact (stepErr_zero (h.legal k _ hx)).2.2.2
theorem Good.take {C : KCon} {l : List Int} (h : Good C l) (k : Nat) : Good C (l.take k) :=
 ⟨h.valid, by have := h.len; rw [List.length_take]; omega, fun j x hx => by
  rw [List.getElem?_take] at hx
  split at hx
  · rw [List.take_take, Nat.min_eq_left (by omega)]; exact h.legal j x hx
  · cases hx⟩
def SepG (o : Option Nat) (g : Nat) (w : World) (t : TV) (s : KState) : Prop := ∀ w', Upd (fun k => some k = o ∨ k = g) w w' → StateAt w' t s
theorem SepG.at {o : Option Nat} {g : Nat} {w : World} {t : TV} {s : KState} (h : SepG o g w t s) : StateAt w t s := h w (Upd.refl _ _)
theorem SepG.below {o : Option Nat} {g : Nat} {w w' : World} {t : TV} {s : KState} (h : SepG o g w t s) (hb : Below w.heap.size w w') : SepG o g w' t s :=
 fun _ hu => h _ (((Upd.refl _ w).on hb).trans hu (fun _ _ h => h))
theorem SepG.upd {o : Option Nat} {g : Nat} {w w' : World} {t : TV} {s : KState} (h : SepG o g w t s) (hu : Upd (fun k => k = g) w w') : SepG o g w' t s :=
 fun _ hv => h _ ((hu.mono (fun _ _ e => .inr e)).trans hv (fun _ _ h => h))
def StatesG (g B : Nat) (w : World) (v : Value) (R : List KState) : Prop :=
 (∀ k, v.ownBlock = some k → k ≠ g) ∧ ∃ ts : List TV, ts.length = R.length ∧ w.ownsRow B 43 4 v R.length ((R.zip ts).flatMap (fun p => TV.cells p.2 p.1)) ∧ ∀ (i : Nat) (s : KState) (t : TV), R[i]? = some s → ts[i]? = some t → SepG v.ownBlock g w t s ∧ NewT B t
theorem StatesG.below {g B : Nat} {w w' : World} {v : Value} {R : List KState} (h : StatesG g B w v R) (hb : Below w.heap.size w w') : StatesG g B w' v R := by
 obtain ⟨h0, ts, h1, h2, h3⟩ := h
 exact ⟨h0, ts, h1, ownsRow_below h2 hb, fun i s t hs ht => ⟨(h3 i s t hs ht).1.below hb, (h3 i s t hs ht).2⟩⟩
theorem StatesG.upd {g B : Nat} {w w' : World} {v : Value} {R : List KState} (h : StatesG g B w v R) (hu : Upd (fun k => k = g) w w') : StatesG g B w' v R := by
 obtain ⟨h0, ts, h1, h2, h3⟩ := h
 refine ⟨h0, ts, h1, ⟨h2.1, ?_⟩, fun i s t hs ht => ⟨(h3 i s t hs ht).1.upd hu, (h3 i s t hs ht).2⟩⟩
 rcases h2.2 with e | ⟨b, cap, cur, hv, hB, hg, r⟩
 · exact .inl e
 · exact .inr ⟨b, cap, cur, hv, hB, hu.keep hg (h0 b (by rw [hv]; rfl)), r⟩
theorem StatesG.ret {g B : Nat} {w : World} {v : Value} {R : List KState} (h : StatesG g B w v R) : ∃ A c, v = .slice A R.length c ∧ StatesN B w ⟨A, c⟩ R := by
 obtain ⟨_, ts, h1, h2, h3⟩ := h
 obtain ⟨A, c, rfl, hAt⟩ := ownsRow_at h2 (cells_one _)
 exact ⟨A, c, rfl, fun b off e => (h2.lt b (by simp only at e; rw [e]; rfl)).1, ts, h1, hAt, fun i s t hs ht => ⟨(h3 i s t hs ht).1.at, (h3 i s t hs ht).2⟩⟩
theorem StatesG.sep {g B : Nat} {w z z' : World} {v : Value} {R : List KState} (h : StatesG g B w v R) (hg : g < z.heap.size) (hz : w.heap.size ≤ z.heap.size) {t : TV} {s : KState} (hs : StateAt z' t s) (hn : NewT z.heap.size t) : SepG v.ownBlock g z' t s := by
 obtain ⟨_, ts, h1, h2, h3⟩ := h
 exact fun w' hu => hs.updLow hn hu (fun k hk => by
  rcases hk with hk | hk
  · have := (h2.lt k hk.symm).2; omega
  · omega)
set_option maxRecDepth 100000 in
theorem wpList_append_stateG {W : World} {ops : Array Oper} {rest : List Oper} {o : Oper} {a : Act} {Q : Exit → Act → World → Prop}
 (hg : o.guard = none) (so x : Operand) (hop : o.op = Op.call { callee := Callee.builtin Builtin.append, args := #[so, x], argTypes := #[28, 28] })
 (g B : Nat) (v : Value) (R : List KState) (hs : a.eval so = v) (hown : StatesG g B W v R) (t : TV) (s : KState) (hst : SepG v.ownBlock g W t s) (hnt : NewT B t) (arr : Array Value) (harr : arr = (t.cells s).toArray)
 (hx : a.eval x = .slice (some ⟨W.heap.size, 0, none⟩) 1 1) (hlen : R.length ≤ 1000000) (hBW : B ≤ W.heap.size) (hgW : g < W.heap.size)
 (hK : ∀ A' c' w', StatesG g B w' (.slice A' (R ++ [s]).length c') (R ++ [s]) → SepG (Value.slice A' (R ++ [s]).length c').ownBlock g w' t s → Below B W w' → w'.heap[g]? = W.heap[g]? → wpList Tryz.prog ops Q rest (a.put o.dst (.slice A' (R ++ [s]).length c')) w') :
 wpList Tryz.prog ops Q (o :: rest) a (W.alloc (.cells arr 43)) := by
 subst harr
 obtain ⟨h0, ts, h1, h2, h3⟩ := hown
 obtain ⟨is, hsi, hsz, hss, hsb⟩ := info_parts' (P := Tryz.prog) (t := 43) (z := some zeroState) (s := 4) (b := 80) (by kernel_rfl)
 have hba : Below W.heap.size W (W.alloc (.cells (t.cells s).toArray 43)) := Below.alloc' (Below.refl _ _) _
 refine wpList_append_own_at _ hg so x 28 hop B 43 is zeroState 4 80 Tryz.underlying28 hsi hsz hss hsb rfl (by decide) v R.length _ hs (World.ownsRow.alloc h2 _) ⟨W.heap.size, 0, none⟩ 1 1 (t.cells s) hx rfl
  (fun j u hj => by
   rw [Addr.add_lit, cell_of_row _ _ (0 + j) _ _ _ (heap_alloc_new W _)]
   simpa using hj) (by
   intro u hu
   simp only [TV.cells, KState.cells, List.mem_cons, List.not_mem_nil, or_false] at hu
   rcases hu with rfl | rfl | rfl | rfl <;> rfl) (by unfold maxLen; omega) (by omega) (by simp; omega) ?_
 intro v' w' hown' hgrow _ hblk
 have hupd : Upd (fun k => some k = v.ownBlock ∨ k = g) (W.alloc (.cells (t.cells s).toArray 43)) w' := ⟨hgrow.os, hgrow.tape, hgrow.output, hgrow.size, fun k hk hn => hgrow.block k hk (fun e => hn (.inl e))⟩
 have hsep : ∀ (t' : TV) (s' : KState), SepG v.ownBlock g W t' s' → SepG v'.ownBlock g w' t' s' := fun t' s' h w'' hu =>
  (h.below hba) w'' (hupd.trans hu (fun i hi e => by
   rcases e with e | e
   · rcases hblk with hblk | hblk
     · rw [← hblk]; exact .inl e
     · rw [hblk] at e; injection e with e; omega
   · exact .inr e))
 suffices hso : StatesG g B w' v' (R ++ [s]) ∧ Below B W w' ∧ w'.heap[g]? = W.heap[g]? by
  obtain ⟨A', c', e, _⟩ := hso.1.ret
  subst e
  exact hK A' c' w' hso.1 (hsep _ _ hst) hso.2.1 hso.2.2
 refine ⟨⟨?_, ts ++ [t], by simp [h1], ?_, fun i x' t' hx' ht' => ?_⟩, ?_, ?_⟩
 · intro k hk
   rcases hblk with hblk | hblk
   · rw [hblk] at hk; exact h0 k hk
   · rw [hblk] at hk; injection hk with hk; simp at hk; omega
 · rw [List.zip_append h1.symm, List.flatMap_append, List.length_append, List.length_singleton]
   simpa using hown'
 · by_cases hi : i < R.length
   · rw [List.getElem?_append_left hi] at hx'
     rw [List.getElem?_append_left (by rw [h1]; exact hi)] at ht'
     exact ⟨hsep _ _ (h3 i x' t' hx' ht').1, (h3 i x' t' hx' ht').2⟩
   · rw [List.getElem?_append_right (by omega)] at hx'
     rw [List.getElem?_append_right (by rw [h1]; omega), h1] at ht'
     cases hk : i - R.length with
     | zero =>
      rw [hk] at hx' ht'
      simp at hx' ht'
      rw [← hx', ← ht']
      exact ⟨hsep _ _ hst, hnt⟩
     | succ q => rw [hk] at hx'; simp at hx'
 · exact ((Below.refl _ W).alloc hBW _).grown hgrow (by simp; omega) (fun k hk => (h2.lt k hk).1)
 · rw [hgrow.block g (by simp; omega) (fun e => h0 g e.symm rfl)]
   exact hba.block g hgW
def RunPost (C : KCon) (l : List Int) (w : World) (e : Ending) (w' : World) : Prop :=
 ∃ (A : Option Addr) (c : Nat) (R : List KState) (er : Int), e = .returned (.tuple #[.slice A R.length c, .int .i64 er]) ∧ Below w.heap.size w w' ∧
  ((er = 0 ∧ Good C l ∧ R = C.trail l l.length ∧ StatesN w.heap.size w' ⟨A, c⟩ R) ∨ (er ≠ 0 ∧ ¬ Good C l ∧ A = none ∧ c = 0 ∧ R = []))
end Go.Proofs.YtaielhafpmjkaaaGreatDoor
