/-
  FewB; Public
-/
import Derived.Test.YtaielhafpmjkaaaGreatDoorQ34
import Derived.Test.YtaielhafpmjkaaaGreatDoorQ41
import Derived.Test.YtaielhafpmjkaaaGreatDoorQ43
import Derived.Test.YtaielhafpmjkaaaGreatDoorQ36
namespace Go.Proofs.YtaielhafpmjkaaaGreatDoor
open Go.RowKit Go.Shelf
set_option maxRecDepth 100000 in
theorem small_big (v : CV) (C : KCon) (n : Int) (w : World) (hC : ConAt w v C) (hA : 70 < C.acts.length) : Calls Tryz.prog 57 #[v.val C, .int .i64 n] w (RetB (.bool false) w) := by
 obtain ⟨⟨vhA, vhc⟩, ⟨vuA, vuc⟩, ⟨vaA, vac⟩, ⟨vkA, vkc⟩, ⟨voA, voc⟩⟩ := v
 have hx1 : C.holders.length ≤ 9223372036854775807 := by have h1 := hC.holders.2.2.1; have h2 := hC.holders.2.2.2; unfold maxLen at h2; omega
 have hx2 : C.units.length ≤ 9223372036854775807 := by have h1 := hC.units.2.2.1; have h2 := hC.units.2.2.2; unfold maxLen at h2; omega
 have hx3 : C.acts.length ≤ 9223372036854775807 := by have h1 := hC.acts.2.2.1; have h2 := hC.acts.2.2.2; unfold maxLen at h2; omega
 have q3 : (70 : Int) < (C.acts.length : Int) := by omega
 clear hC
 simp only [CV.val, CV.cells]
 go_enter Tryz.func57, Tryz.ntmps57
 go_upto_region 1 with (fail)
 generalize hW0 : World.alloc _ _ = W0
 obtain ⟨HB, hh0⟩ := bx1 hW0
 clear hW0
 obtain ⟨k0_0, k0_1, k0_2, k0_3, k0_4, k0_5, k0_6⟩ := kc7 hh0
 clear hh0
 change Code.wp _ _ _ _ (Bl.val (⟨W0, Below.refl _ _⟩ : Bl W0))
 generalize (⟨W0, Below.refl _ _⟩ : Bl W0) = s0
 cases q1 : decide (20 < (C.holders.length : Int)) <;> cases q2 : decide (30 < (C.units.length : Int))
 all_goals
  go_wp2
  go_ret
  exact ⟨rfl, Below.step HB.out (Bl.prop _)⟩
set_option maxRecDepth 100000 in
theorem tame_big (v : CV) (C : KCon) (w : World) (hC : ConAt w v C) (hA : 70 < C.acts.length) : Calls Tryz.prog 34 #[v.val C] w (RetB (.bool false) w) := by
 obtain ⟨⟨vhA, vhc⟩, ⟨vuA, vuc⟩, ⟨vaA, vac⟩, ⟨vkA, vkc⟩, ⟨voA, voc⟩⟩ := v
 have HC := Lib.hid hC; clear hC
 simp only [CV.val, CV.cells]
 go_enter Tryz.func34, Tryz.ntmps34
 go_upto_region 1 with (fail)
 generalize hW0 : World.alloc _ _ = W0
 obtain ⟨HB, hh0⟩ := bx1 hW0
 clear hW0
 obtain ⟨k0_0, k0_1, k0_2, k0_3, k0_4, k0_5, k0_6⟩ := kc7 hh0
 clear hh0
 change Code.wp _ _ _ _ (Bl.val (⟨W0, Below.refl _ _⟩ : Bl W0))
 generalize (⟨W0, Below.refl _ _⟩ : Bl W0) = s0
 have HS := Lib.hid (fun z : Bl W0 => small_big (⟨⟨vhA, vhc⟩, ⟨vuA, vuc⟩, ⟨vaA, vac⟩, ⟨vkA, vkc⟩, ⟨voA, voc⟩⟩ : CV) C 6 z.val (HC.out.below (Below.step HB.out z.prop)) hA)
 simp only [CV.val, CV.cells] at HS
 go_wp2_with (go_at_call 57; refine (HS.out _).mono ?_; rintro e z ⟨rfl, hz⟩; obtain ⟨z, rfl⟩ := Bl.on hz; clear hz)
 go_ret
 exact ⟨rfl, Below.step HB.out (Bl.prop _)⟩
set_option maxRecDepth 100000 in
theorem few_big (v : CV) (C : KCon) (lv : SV) (n : Nat) (p : Int) (sv : SV) (b : List KState) (w : World) (hC : ConAt w v C) (hA : 70 < C.acts.length) : Calls Tryz.prog 12 #[v.val C, .slice lv.A n lv.c, .agg #[.int .i64 p, .slice sv.A b.length sv.c]] w (RetB (.bool false) w) := by
 obtain ⟨⟨vhA, vhc⟩, ⟨vuA, vuc⟩, ⟨vaA, vac⟩, ⟨vkA, vkc⟩, ⟨voA, voc⟩⟩ := v
 obtain ⟨bA, bc⟩ := sv
 obtain ⟨lA, lc⟩ := lv
 have HC := Lib.hid hC; clear hC
 simp only [CV.val, CV.cells]
 go_enter Tryz.func12, Tryz.ntmps12
 go_upto_region 1 with (fail)
 generalize hW0 : World.alloc _ _ = W0
 obtain ⟨HB, hh0, hh1⟩ := bx2 hW0
 clear hW0
 obtain ⟨k0_0, k0_1, k0_2, k0_3, k0_4, k0_5, k0_6⟩ := kc7 hh0
 clear hh0
 obtain ⟨k1_0, k1_1⟩ := kc2 hh1
 clear hh1
 change Code.wp _ _ _ _ (Bl.val (⟨W0, Below.refl _ _⟩ : Bl W0))
 generalize (⟨W0, Below.refl _ _⟩ : Bl W0) = s0
 have HS := Lib.hid (fun z : Bl W0 => tame_big (⟨⟨vhA, vhc⟩, ⟨vuA, vuc⟩, ⟨vaA, vac⟩, ⟨vkA, vkc⟩, ⟨voA, voc⟩⟩ : CV) C z.val (HC.out.below (Below.step HB.out z.prop)) hA)
 simp only [CV.val, CV.cells] at HS
 go_wp2_with (go_at_call 34; refine (HS.out _).mono ?_; rintro e z ⟨rfl, hz⟩; obtain ⟨z, rfl⟩ := Bl.on hz; clear hz)
 go_ret
 exact ⟨rfl, Below.step HB.out (Bl.prop _)⟩
end Go.Proofs.YtaielhafpmjkaaaGreatDoor
namespace Go.Proofs.YtaielhafpmjkaaaGreatDoor
open Go.RowKit Go.Shelf
theorem kupL2 {W W' : World} {g i : Nat} {u : Value} (hp : Below W.heap.size W W') (k : ∀ z : Bl W, z.val.cell? ⟨g, i, none⟩ = some u) : ∀ z : Bl W', z.val.cell? ⟨g, i, none⟩ = some u := fun z => k ⟨z.val, Below.step hp z.prop⟩
def pubA (a : KAct) : KAct := cond (a.kind == 1) ⟨a.kind, a.role, a.give, -1, a.unit, a.lot⟩ a
theorem pub_sees {C : KCon} {p : Int} (hp : 0 ≤ p ∧ p < C.parties) (h : ∀ a ∈ C.acts, a.kind = 1 → a.tgt = -1) : Sees C p (fun _ => True) := by
 refine ⟨trivial, fun _ _ _ _ => trivial, fun s i _ hO hi => ?_⟩
 obtain ⟨a, ha⟩ : ∃ a, C.acts[i]? = some a := ⟨C.acts[i], List.getElem?_eq_getElem hi⟩
 rw [sees_eq hO ha hp.1 hp.2]
 unfold seesK seesB
 cases q : (a.kind == 1) with
 | false => rfl
 | true =>
  rw [beq_iff_eq] at q
  rw [h a (List.mem_of_getElem? ha) q]
  rfl
theorem pubA_tgt (a : KAct) : (pubA a).kind = 1 → (pubA a).tgt = -1 := by
 unfold pubA
 cases q : (a.kind == 1) with
 | false =>
  intro h
  simp only [cond_false] at h
  rw [h] at q
  cases q
 | true => exact fun _ => rfl
theorem row7_set {w : World} {g : Nat} {y0 y1 y2 y3 y4 y5 y6 x : Value} {t : TypeId} (h : w.heap[g]? = some (.cells #[y0, y1, y2, y3, y4, y5, y6] t (0, 0))) : (w.setCell ⟨g, 3, none⟩ x).heap[g]? = some (.cells #[y0, y1, y2, x, y4, y5, y6] t (0, 0)) := by
 simp [World.setCell, Array.getElem?_modify, h]
set_option maxRecDepth 100000 in
set_option maxHeartbeats 4000000 in
theorem public_walk (v : CV) (C : KCon) (lv : SV) (l : List Int) (p : Int) (w : World) (hC : ConAt w v C) (hV : At w 1 lv.A l.length lv.c (ints l)) (hT : Tab w) : Calls Tryz.prog 9 #[v.val C, .slice lv.A l.length lv.c, .int .i64 p] w (RetB (.bool true) w) := by
 obtain ⟨⟨vhA, vhc⟩, ⟨vuA, vuc⟩, ⟨vaA, vac⟩, ⟨vkA, vkc⟩, ⟨voA, voc⟩⟩ := v
 obtain ⟨lA, lc⟩ := lv
 have hlx : l.length ≤ 9223372036854775807 := by have h1 := hV.2.2.1; have h2 := hV.2.2.2; unfold maxLen at h2; omega
 have HC := Lib.hid hC; clear hC
 have HL := Lib.hid hV; clear hV
 have HT := Lib.hid hT; clear hT
 simp only [CV.val, CV.cells]
 go_enter Tryz.func9, Tryz.ntmps9
 go_upto_region 1 with (fail)
 generalize hW0 : World.alloc _ _ = W0
 obtain ⟨HB, hh0⟩ := bx1 hW0
 clear hW0
 obtain ⟨k0_0, k0_1, k0_2, k0_3, k0_4, k0_5, k0_6⟩ := kc7 hh0
 clear hh0
 change Code.wp _ _ _ _ (Bl.val (⟨W0, Below.refl _ _⟩ : Bl W0))
 generalize (⟨W0, Below.refl _ _⟩ : Bl W0) = s0
 have HH := Lib.hid (fun z : Bl W0 => head_any z.val (HT.out.below (Below.step HB.out z.prop)))
 have HFW := Lib.hid (fun z : Bl W0 => few_any (⟨⟨vhA, vhc⟩, ⟨vuA, vuc⟩, ⟨vaA, vac⟩, ⟨vkA, vkc⟩, ⟨voA, voc⟩⟩ : CV) C ⟨lA, lc⟩ l 0 ⟨none, 0⟩ [] z.val (HC.out.below (Below.step HB.out z.prop)) (HL.out.below (by omega) (Below.step HB.out z.prop)) ⟨[], rfl, at_nil _ _, fun i s t h => by simp at h⟩)
 simp only [CV.val, CV.cells] at HFW
 by_cases hbig : 70 < C.acts.length
 · have HFB := Lib.hid (fun z : Bl W0 => few_big (⟨⟨vhA, vhc⟩, ⟨vuA, vuc⟩, ⟨vaA, vac⟩, ⟨vkA, vkc⟩, ⟨voA, voc⟩⟩ : CV) C ⟨lA, lc⟩ l.length 0 ⟨none, 0⟩ [] z.val (HC.out.below (Below.step HB.out z.prop)) hbig)
   simp only [CV.val, CV.cells] at HFB
   go_wp2_with (first | (go_at_call 11; refine (HH.out _).mono ?_; rintro e z ⟨rfl, hz⟩; obtain ⟨z, rfl⟩ := Bl.on hz; clear hz) | (go_at_call 12; refine (HFB.out _).mono ?_; rintro e z ⟨rfl, hz⟩; obtain ⟨z, rfl⟩ := Bl.on hz; clear hz))
   go_ret
   exact ⟨rfl, Below.step HB.out (Bl.prop _)⟩
 have HSM : Hid (C.acts.length ≤ 70) := by show _ ≤ _; omega
 have hax : C.acts.length ≤ 9223372036854775807 := by omega
 clear hbig
 go_wp2_with (first | (go_at_call 11; refine (HH.out _).mono ?_; rintro e z ⟨rfl, hz⟩; obtain ⟨z, rfl⟩ := Bl.on hz; clear hz) | (go_at_call 12; refine (HFW.out _).mono ?_; rintro e z ⟨fx, rfl, hz⟩; obtain ⟨z, rfl⟩ := Bl.on hz; clear hz; refine Hid.out ?_))
 refine Lib.hid ?_
 cases fx with
 | false =>
  go_wp2
  go_ret
  exact ⟨rfl, Below.step HB.out (Bl.prop _)⟩
 | true =>
  obtain ⟨iA, hIA1, hIA2, hIA3, hIA4⟩ := info_parts' (P := Tryz.prog) (t := 67) (z := some (.agg #[.int .i64 0, .int .i64 0, .int .i64 0, .int .i64 0, .int .i64 0, .int .i64 0, .int .i64 0])) (s := 7) (b := 56) (by kernel_rfl)
  go_upto_region 5 with (fail)
  obtain ⟨W1, HW1⟩ : ∃ W1, Hid (W1 = z.val.alloc (.cells #[.int .i64 C.parties, .slice vhA C.holders.length vhc, .slice vuA C.units.length vuc, .slice vaA C.acts.length vac, .slice vkA C.clauses.length vkc, .int .i64 C.days, .slice voA C.off.length voc] 27)) := ⟨_, rfl⟩
  rw [← HW1.out]
  have hb1 : Below z.val.heap.size z.val W1 := by rw [HW1.out]; exact Below.alloc' (Below.refl _ _) _
  have hx1 : W1.heap[z.val.heap.size]? = some (.cells #[.int .i64 C.parties, .slice vhA C.holders.length vhc, .slice vuA C.units.length vuc, .slice vaA C.acts.length vac, .slice vkA C.clauses.length vkc, .int .i64 C.days, .slice voA C.off.length voc] 27 (0, 0)) := by rw [HW1.out]; exact heap_alloc_new z.val _
  have HP1 : Hid (Below W0.heap.size W0 W1) := Below.step z.prop hb1
  have HBD : Hid (W0.heap.size ≤ z.val.heap.size) := z.prop.size
  generalize z.val.heap.size = bd at hx1 HBD ⊢
  have c3 : W1.cell? ⟨bd, 3, none⟩ = some (.slice vaA C.acts.length vac) := (cell_of_row _ _ 3 _ _ _ hx1).trans rfl
  have f3 : W1.frozen? ⟨bd, 3, none⟩ = false := frozen_of_row hx1 3
  go_wp2
  have HXS : Hid ((W1.setCell ⟨bd, 3, none⟩ (.slice none 0 0)).heap[bd]? = some (.cells #[.int .i64 C.parties, .slice vhA C.holders.length vhc, .slice vuA C.units.length vuc, .slice none 0 0, .slice vkA C.clauses.length vkc, .int .i64 C.days, .slice voA C.off.length voc] 27 (0, 0))) := row7_set hx1
  have HWS : Hid (Below W0.heap.size W0 (W1.setCell ⟨bd, 3, none⟩ (.slice none 0 0))) := HP1.out.trans (((Upd.refl (fun k => k = bd) W1).setCell (.inl rfl) _).below (by have := HP1.out.size; omega) (fun k e => by have := HBD.out; omega))
  generalize W1.setCell ⟨bd, 3, none⟩ (.slice none 0 0) = Ws at HXS HWS ⊢
  clear c3 f3 hb1 hx1
  go_loopg [9] C.acts.length (fun gk v9 wr => ∃ (n : Nat) (dA : Option Addr) (dc : Nat), gk = C.acts.length - n ∧ n ≤ C.acts.length ∧ v9 = .int .i64 n ∧ Hid (wr.heap[bd]? = some (.cells #[.int .i64 C.parties, .slice vhA C.holders.length vhc, .slice vuA C.units.length vuc, .slice dA n dc, .slice vkA C.clauses.length vkc, .int .i64 C.days, .slice voA C.off.length voc] 27 (0, 0))) ∧ Hid (wr.ownsRow (bd + 1) 67 7 (.slice dA n dc) n (((C.acts.take n).map pubA).flatMap KAct.cells)) ∧ Hid (Below W0.heap.size W0 wr))
  case atStart => exact ⟨0, none, 0, rfl, Nat.zero_le _, rfl, HXS, World.ownsRow_nil _ _ _ _, HWS⟩
  case round =>
   obtain ⟨n, dA, dc, hgk, hn, rfl, HXR, HOR, HWR⟩ := hrel
   have HGK := Lib.hid hgk; clear hgk
   by_cases hlt : n < C.acts.length
   · obtain ⟨a, ha⟩ : ∃ a, C.acts[n]? = some a := ⟨C.acts[n], List.getElem?_eq_getElem hlt⟩
     have HA := Lib.hid ha; clear ha
     obtain ⟨ab, ao, hAA, _, hac⟩ := (HC.out.below HB.out).act HA.out
     try simp only at hAA
     subst hAA
     obtain ⟨ki, ro, gi, tg, un, ⟨ln, ld⟩⟩ := a
     obtain ⟨a0, a1, a2, a3, a4, a5, a6⟩ := rw7 (hac wr HWR.out) rfl
     have r0 := k0_0 ⟨wr, HWR.out⟩
     have r1 := k0_1 ⟨wr, HWR.out⟩
     have r2 := k0_2 ⟨wr, HWR.out⟩
     have r3 := k0_3 ⟨wr, HWR.out⟩
     have r4 := k0_4 ⟨wr, HWR.out⟩
     have r5 := k0_5 ⟨wr, HWR.out⟩
     have r6 := k0_6 ⟨wr, HWR.out⟩
     clear hac
     simp only at r0 r1 r2 r3 r4 r5 r6
     have i1 : (n : Int) < (C.acts.length : Int) := by omega
     go_upto_region 10 with (fail)
     obtain ⟨Wa, HWa⟩ : ∃ Wa, Hid (Wa = wr.alloc (.cells #[.int .i64 ki, .int .i64 ro, .int .i64 gi, .int .i64 tg, .int .i64 un, .int .i64 ln, .int .i64 ld] 67)) := ⟨_, rfl⟩
     rw [← HWa.out]
     have hba : Below wr.heap.size wr Wa := by rw [HWa.out]; exact Below.alloc' (Below.refl _ _) _
     have hxa : Wa.heap[wr.heap.size]? = some (.cells #[.int .i64 ki, .int .i64 ro, .int .i64 gi, .int .i64 tg, .int .i64 un, .int .i64 ln, .int .i64 ld] 67 (0, 0)) := by rw [HWa.out]; exact heap_alloc_new wr _
     have hbl : bd < wr.heap.size := lt_of_heap HXR.out
     obtain ⟨ba, HBA⟩ : ∃ ba, Hid (ba = wr.heap.size) := ⟨_, rfl⟩
     rw [← HBA.out] at hxa hbl hba ⊢
     clear a0 a1 a2 a3 a4 a5 a6 r0 r1 r2 r3 r4 r5 r6
     cases qk : (ki == 1) with
     | true =>
      have e0 : Wa.cell? ⟨ba, 0, none⟩ = some (.int .i64 ki) := (cell_of_row _ _ 0 _ _ _ hxa).trans rfl
      have e3 : Wa.cell? ⟨ba, 3, none⟩ = some (.int .i64 tg) := (cell_of_row _ _ 3 _ _ _ hxa).trans rfl
      have g3 : Wa.frozen? ⟨ba, 3, none⟩ = false := frozen_of_row hxa 3
      go_upto_region 12 with (fail)
      obtain ⟨W4, HW4⟩ : ∃ W4, Hid (W4 = Wa.setCell ⟨ba, 3, none⟩ (.int .i64 (-1))) := ⟨_, rfl⟩
      rw [← HW4.out]
      have hx4 : W4.heap[ba]? = some (.cells #[.int .i64 ki, .int .i64 ro, .int .i64 gi, .int .i64 (-1), .int .i64 un, .int .i64 ln, .int .i64 ld] 67 (0, 0)) := by rw [HW4.out]; exact row7_set hxa
      have HU4 : Hid (Upd (fun k => k = ba) Wa W4) := by show Upd _ _ _; rw [HW4.out]; exact (Upd.refl (fun k => k = ba) Wa).setCell (.inl rfl) _
      have HXW : Hid (W4.heap[bd]? = some (.cells #[.int .i64 C.parties, .slice vhA C.holders.length vhc, .slice vuA C.units.length vuc, .slice dA n dc, .slice vkA C.clauses.length vkc, .int .i64 C.days, .slice voA C.off.length voc] 27 (0, 0))) := HU4.out.keep ((hba.block bd hbl).trans HXR.out) (by omega)
      have HWW : Hid (Below W0.heap.size W0 W4) := (HWR.out.trans (hba.mono (by have := HBD.out; omega))).trans (HU4.out.below (by have := HWR.out.size; have := hba.size; omega) (fun k e => by have := HBD.out; omega))
      have HBB : Hid (bd + 1 ≤ W4.heap.size) := lt_of_heap HXW.out
      have HOW : Hid (W4.ownsRow (bd + 1) 67 7 (.slice dA n dc) n (((C.acts.take n).map pubA).flatMap KAct.cells)) := by
       refine ⟨HOR.out.1, ?_⟩
       rcases HOR.out.2 with e | ⟨g, cap, cur, hv, hg, hh, rest⟩
       · exact .inl e
       · exact .inr ⟨g, cap, cur, hv, hg, HU4.out.keep ((hba.block g (by have h := lt_of_heap hh; have h2 := HBA.out; omega)).trans hh) (by have h := lt_of_heap hh; have h2 := HBA.out; omega), rest⟩
      have b0 : W4.cell? ⟨ba, 0, none⟩ = some (.int .i64 ki) := (cell_of_row _ _ 0 _ _ _ hx4).trans rfl
      have b1 : W4.cell? ⟨ba, 1, none⟩ = some (.int .i64 ro) := (cell_of_row _ _ 1 _ _ _ hx4).trans rfl
      have b2 : W4.cell? ⟨ba, 2, none⟩ = some (.int .i64 gi) := (cell_of_row _ _ 2 _ _ _ hx4).trans rfl
      have b3 : W4.cell? ⟨ba, 3, none⟩ = some (.int .i64 (-1)) := (cell_of_row _ _ 3 _ _ _ hx4).trans rfl
      have b4 : W4.cell? ⟨ba, 4, none⟩ = some (.int .i64 un) := (cell_of_row _ _ 4 _ _ _ hx4).trans rfl
      have b5 : W4.cell? ⟨ba, 5, none⟩ = some (.int .i64 ln) := (cell_of_row _ _ 5 _ _ _ hx4).trans rfl
      have b6 : W4.cell? ⟨ba, 6, none⟩ = some (.int .i64 ld) := (cell_of_row _ _ 6 _ _ _ hx4).trans rfl
      clear hx4 e0 e3 g3 hxa hba
      have hn1 : n + 1 ≤ maxLen := by unfold maxLen; have := HSM.out; omega
      have hn2 : (n + 1) * 56 ≤ 140737488355328 := by have := HSM.out; omega
      have hBW : bd + 1 ≤ W4.heap.size := HBB.out
      have c3 : W4.cell? ⟨bd, 3, none⟩ = some (.slice dA n dc) := (cell_of_row _ _ 3 _ _ _ HXW.out).trans rfl
      go_wp2_with (at_builtin; refine wpList_append_one rfl _ _ 24 rfl 67 iA (.agg #[.int .i64 0, .int .i64 0, .int .i64 0, .int .i64 0, .int .i64 0, .int .i64 0, .int .i64 0]) 7 56 Tryz.underlying24 hIA1 hIA2 hIA3 hIA4 rfl (by decide) (bd + 1) (.slice dA n dc) n (((C.acts.take n).map pubA).flatMap KAct.cells) rfl HOW.out [.int .i64 ki, .int .i64 ro, .int .i64 gi, .int .i64 (-1), .int .i64 un, .int .i64 ln, .int .i64 ld] _ rfl rfl (by intro u hu; simp only [List.mem_cons, List.not_mem_nil, or_false] at hu; rcases hu with rfl | rfl | rfl | rfl | rfl | rfl | rfl <;> rfl) rfl hn1 hn2 hBW ?_; intro v9 w9 q1 q2 q3; refine Hid.out ?_)
      refine Lib.hid ?_
      obtain ⟨dA', dc', hv9, _⟩ := ownsRow_at q1 (by
       intro u hu
       rw [List.mem_append] at hu
       rcases hu with hu | hu
       · obtain ⟨x, _, hx⟩ := List.mem_flatMap.1 hu
         simp only [KAct.cells, List.mem_cons, List.not_mem_nil, or_false] at hx
         rcases hx with rfl | rfl | rfl | rfl | rfl | rfl | rfl <;> rfl
       · simp only [List.mem_cons, List.not_mem_nil, or_false] at hu
         rcases hu with rfl | rfl | rfl | rfl | rfl | rfl | rfl <;> rfl)
      subst hv9
      have HX9 : Hid (w9.heap[bd]? = some (.cells #[.int .i64 C.parties, .slice vhA C.holders.length vhc, .slice vuA C.units.length vuc, .slice dA n dc, .slice vkA C.clauses.length vkc, .int .i64 C.days, .slice voA C.off.length voc] 27 (0, 0))) := by show _ = _; rw [q2.block bd (by omega)]; exact HXW.out
      have HU9 := Lib.hid q2
      have HQ1 := Lib.hid q1
      have c9 : w9.cell? ⟨bd, 3, none⟩ = some (.slice dA n dc) := (cell_of_row _ _ 3 _ _ _ HX9.out).trans rfl
      have f9 : w9.frozen? ⟨bd, 3, none⟩ = false := frozen_of_row HX9.out 3
      clear q1 q2 q3
      go_wp2
      have HXF : Hid ((w9.setCell ⟨bd, 3, none⟩ (.slice dA' (n + 1) dc')).heap[bd]? = some (.cells #[.int .i64 C.parties, .slice vhA C.holders.length vhc, .slice vuA C.units.length vuc, .slice dA' (n + 1) dc', .slice vkA C.clauses.length vkc, .int .i64 C.days, .slice voA C.off.length voc] 27 (0, 0))) := row7_set HX9.out
      have HUF : Hid (Upd (fun k => k = bd) w9 (w9.setCell ⟨bd, 3, none⟩ (.slice dA' (n + 1) dc'))) := (Upd.refl (fun k => k = bd) w9).setCell (.inl rfl) _
      have HWF : Hid (Below W0.heap.size W0 (w9.setCell ⟨bd, 3, none⟩ (.slice dA' (n + 1) dc'))) := (HWW.out.trans (HU9.out.mono (by have := HBD.out; omega))).trans (HUF.out.below (by have := HWW.out.size; have := HU9.out.size; omega) (fun k e => by have := HBD.out; omega))
      have HOF : Hid ((w9.setCell ⟨bd, 3, none⟩ (.slice dA' (n + 1) dc')).ownsRow (bd + 1) 67 7 (.slice dA' (n + 1) dc') (n + 1) (((C.acts.take (n + 1)).map pubA).flatMap KAct.cells)) := by
       have h1 : (((C.acts.take (n + 1)).map pubA).flatMap KAct.cells) = (((C.acts.take n).map pubA).flatMap KAct.cells) ++ [.int .i64 ki, .int .i64 ro, .int .i64 gi, .int .i64 (-1), .int .i64 un, .int .i64 ln, .int .i64 ld] := by
        rw [take_snoc' HA.out, List.map_append, List.flatMap_append]
        simp only [List.map_cons, List.map_nil, pubA, qk, cond_true, List.flatMap_cons, List.flatMap_nil, List.append_nil, KAct.cells]
       show World.ownsRow _ _ _ _ _ _ _
       rw [h1]
       refine ⟨HQ1.out.1, ?_⟩
       rcases HQ1.out.2 with e | ⟨g, cap, cur, hv, hg, hh, rest⟩
       · exact .inl e
       · exact .inr ⟨g, cap, cur, hv, hg, HUF.out.keep hh (by omega), rest⟩
      generalize w9.setCell ⟨bd, 3, none⟩ (.slice dA' (n + 1) dc') = wf at HXF HWF HOF ⊢
      go_roundg (C.acts.length - (n + 1))
      case measure => have := HGK.out; omega
      case rel => exact ⟨n + 1, dA', dc', rfl, by omega, by go_num, HXF, HOF, HWF⟩
     | false =>
      have hba' := hba
      have HXW : Hid (Wa.heap[bd]? = some (.cells #[.int .i64 C.parties, .slice vhA C.holders.length vhc, .slice vuA C.units.length vuc, .slice dA n dc, .slice vkA C.clauses.length vkc, .int .i64 C.days, .slice voA C.off.length voc] 27 (0, 0))) := (hba.block bd hbl).trans HXR.out
      have HWW : Hid (Below W0.heap.size W0 Wa) := HWR.out.trans (hba.mono (by have := HBD.out; omega))
      have HBB : Hid (bd + 1 ≤ Wa.heap.size) := lt_of_heap HXW.out
      have HOW : Hid (Wa.ownsRow (bd + 1) 67 7 (.slice dA n dc) n (((C.acts.take n).map pubA).flatMap KAct.cells)) := by
       refine ⟨HOR.out.1, ?_⟩
       rcases HOR.out.2 with e | ⟨g, cap, cur, hv, hg, hh, rest⟩
       · exact .inl e
       · exact .inr ⟨g, cap, cur, hv, hg, (hba.block g (by have h := lt_of_heap hh; have h2 := HBA.out; omega)).trans hh, rest⟩
      clear hba'
      have b0 : Wa.cell? ⟨ba, 0, none⟩ = some (.int .i64 ki) := (cell_of_row _ _ 0 _ _ _ hxa).trans rfl
      have b1 : Wa.cell? ⟨ba, 1, none⟩ = some (.int .i64 ro) := (cell_of_row _ _ 1 _ _ _ hxa).trans rfl
      have b2 : Wa.cell? ⟨ba, 2, none⟩ = some (.int .i64 gi) := (cell_of_row _ _ 2 _ _ _ hxa).trans rfl
      have b3 : Wa.cell? ⟨ba, 3, none⟩ = some (.int .i64 tg) := (cell_of_row _ _ 3 _ _ _ hxa).trans rfl
      have b4 : Wa.cell? ⟨ba, 4, none⟩ = some (.int .i64 un) := (cell_of_row _ _ 4 _ _ _ hxa).trans rfl
      have b5 : Wa.cell? ⟨ba, 5, none⟩ = some (.int .i64 ln) := (cell_of_row _ _ 5 _ _ _ hxa).trans rfl
      have b6 : Wa.cell? ⟨ba, 6, none⟩ = some (.int .i64 ld) := (cell_of_row _ _ 6 _ _ _ hxa).trans rfl
      clear hxa hba
      have hn1 : n + 1 ≤ maxLen := by unfold maxLen; have := HSM.out; omega
      have hn2 : (n + 1) * 56 ≤ 140737488355328 := by have := HSM.out; omega
      have hBW : bd + 1 ≤ Wa.heap.size := HBB.out
      have c3 : Wa.cell? ⟨bd, 3, none⟩ = some (.slice dA n dc) := (cell_of_row _ _ 3 _ _ _ HXW.out).trans rfl
      go_wp2_with (at_builtin; refine wpList_append_one rfl _ _ 24 rfl 67 iA (.agg #[.int .i64 0, .int .i64 0, .int .i64 0, .int .i64 0, .int .i64 0, .int .i64 0, .int .i64 0]) 7 56 Tryz.underlying24 hIA1 hIA2 hIA3 hIA4 rfl (by decide) (bd + 1) (.slice dA n dc) n (((C.acts.take n).map pubA).flatMap KAct.cells) rfl HOW.out [.int .i64 ki, .int .i64 ro, .int .i64 gi, .int .i64 tg, .int .i64 un, .int .i64 ln, .int .i64 ld] _ rfl rfl (by intro u hu; simp only [List.mem_cons, List.not_mem_nil, or_false] at hu; rcases hu with rfl | rfl | rfl | rfl | rfl | rfl | rfl <;> rfl) rfl hn1 hn2 hBW ?_; intro v9 w9 q1 q2 q3; refine Hid.out ?_)
      refine Lib.hid ?_
      obtain ⟨dA', dc', hv9, _⟩ := ownsRow_at q1 (by
       intro u hu
       rw [List.mem_append] at hu
       rcases hu with hu | hu
       · obtain ⟨x, _, hx⟩ := List.mem_flatMap.1 hu
         simp only [KAct.cells, List.mem_cons, List.not_mem_nil, or_false] at hx
         rcases hx with rfl | rfl | rfl | rfl | rfl | rfl | rfl <;> rfl
       · simp only [List.mem_cons, List.not_mem_nil, or_false] at hu
         rcases hu with rfl | rfl | rfl | rfl | rfl | rfl | rfl <;> rfl)
      subst hv9
      have HX9 : Hid (w9.heap[bd]? = some (.cells #[.int .i64 C.parties, .slice vhA C.holders.length vhc, .slice vuA C.units.length vuc, .slice dA n dc, .slice vkA C.clauses.length vkc, .int .i64 C.days, .slice voA C.off.length voc] 27 (0, 0))) := by show _ = _; rw [q2.block bd (by omega)]; exact HXW.out
      have HU9 := Lib.hid q2
      have HQ1 := Lib.hid q1
      have c9 : w9.cell? ⟨bd, 3, none⟩ = some (.slice dA n dc) := (cell_of_row _ _ 3 _ _ _ HX9.out).trans rfl
      have f9 : w9.frozen? ⟨bd, 3, none⟩ = false := frozen_of_row HX9.out 3
      clear q1 q2 q3
      go_wp2
      have HXF : Hid ((w9.setCell ⟨bd, 3, none⟩ (.slice dA' (n + 1) dc')).heap[bd]? = some (.cells #[.int .i64 C.parties, .slice vhA C.holders.length vhc, .slice vuA C.units.length vuc, .slice dA' (n + 1) dc', .slice vkA C.clauses.length vkc, .int .i64 C.days, .slice voA C.off.length voc] 27 (0, 0))) := row7_set HX9.out
      have HUF : Hid (Upd (fun k => k = bd) w9 (w9.setCell ⟨bd, 3, none⟩ (.slice dA' (n + 1) dc'))) := (Upd.refl (fun k => k = bd) w9).setCell (.inl rfl) _
      have HWF : Hid (Below W0.heap.size W0 (w9.setCell ⟨bd, 3, none⟩ (.slice dA' (n + 1) dc'))) := (HWW.out.trans (HU9.out.mono (by have := HBD.out; omega))).trans (HUF.out.below (by have := HWW.out.size; have := HU9.out.size; omega) (fun k e => by have := HBD.out; omega))
      have HOF : Hid ((w9.setCell ⟨bd, 3, none⟩ (.slice dA' (n + 1) dc')).ownsRow (bd + 1) 67 7 (.slice dA' (n + 1) dc') (n + 1) (((C.acts.take (n + 1)).map pubA).flatMap KAct.cells)) := by
       have h1 : (((C.acts.take (n + 1)).map pubA).flatMap KAct.cells) = (((C.acts.take n).map pubA).flatMap KAct.cells) ++ [.int .i64 ki, .int .i64 ro, .int .i64 gi, .int .i64 tg, .int .i64 un, .int .i64 ln, .int .i64 ld] := by
        rw [take_snoc' HA.out, List.map_append, List.flatMap_append]
        simp only [List.map_cons, List.map_nil, pubA, qk, cond_false, List.flatMap_cons, List.flatMap_nil, List.append_nil, KAct.cells]
       show World.ownsRow _ _ _ _ _ _ _
       rw [h1]
       refine ⟨HQ1.out.1, ?_⟩
       rcases HQ1.out.2 with e | ⟨g, cap, cur, hv, hg, hh, rest⟩
       · exact .inl e
       · exact .inr ⟨g, cap, cur, hv, hg, HUF.out.keep hh (by omega), rest⟩
      generalize w9.setCell ⟨bd, 3, none⟩ (.slice dA' (n + 1) dc') = wf at HXF HWF HOF ⊢
      go_roundg (C.acts.length - (n + 1))
      case measure => have := HGK.out; omega
      case rel => exact ⟨n + 1, dA', dc', rfl, by omega, by go_num, HXF, HOF, HWF⟩
   · obtain rfl : n = C.acts.length := by omega
     obtain ⟨D, HD⟩ : ∃ D : KCon, Hid (D = ⟨C.parties, C.holders, C.units, C.acts.map pubA, C.clauses, C.days, C.off⟩) := ⟨_, rfl⟩
     have HALL : Hid (∀ a ∈ D.acts, a.kind = 1 → a.tgt = -1) := fun a ha => by
      rw [HD.out] at ha
      obtain ⟨a0, _, rfl⟩ := List.mem_map.1 ha
      exact pubA_tgt a0
     have hDl : D.acts.length = C.acts.length := by rw [HD.out]; simp
     have HBd : Hid (Below w.heap.size w wr) := Below.step HB.out HWR.out
     have HCD0 : Hid (ConAt wr (⟨⟨vhA, vhc⟩, ⟨vuA, vuc⟩, ⟨dA, dc⟩, ⟨vkA, vkc⟩, ⟨voA, voc⟩⟩ : CV) D) := by
      have h0 := HC.out.below HBd.out
      obtain ⟨A9, c9, hv9, hAt⟩ := ownsRow_at HOR.out (by
       intro u hu
       obtain ⟨x, _, hx⟩ := List.mem_flatMap.1 hu
       simp only [KAct.cells, List.mem_cons, List.not_mem_nil, or_false] at hx
       rcases hx with rfl | rfl | rfl | rfl | rfl | rfl | rfl <;> rfl)
      injection hv9 with e1 _ e2
      subst e1 e2
      rw [List.take_length] at hAt
      rw [HD.out]
      exact ⟨h0.holders, h0.units, by rw [List.length_map]; exact hAt, h0.clauses, h0.off⟩
     have hxd : wr.heap[bd]? = some (.cells #[.int .i64 D.parties, .slice vhA D.holders.length vhc, .slice vuA D.units.length vuc, .slice dA D.acts.length dc, .slice vkA D.clauses.length vkc, .int .i64 D.days, .slice voA D.off.length voc] 27 (0, 0)) := by
      rw [hDl, HD.out]
      exact HXR.out
     obtain ⟨q0_0, q0_1, q0_2, q0_3, q0_4, q0_5, q0_6⟩ := Go.Proofs.YtaielhafpmjkaaaGreatDoor.kc7 hxd
     have rr3 := k0_3 ⟨wr, HWR.out⟩
     simp only at rr3
     have HRU := Lib.hid (fun z : Bl wr => run_any (⟨⟨vhA, vhc⟩, ⟨vuA, vuc⟩, ⟨dA, dc⟩, ⟨vkA, vkc⟩, ⟨voA, voc⟩⟩ : CV) D ⟨lA, lc⟩ l z.val (HCD0.out.below z.prop) (HL.out.below (by omega) (Below.step HBd.out z.prop)))
     simp only [CV.val, CV.cells] at HRU
     have HVI := Lib.hid (fun z : Bl wr => view_any (⟨⟨vhA, vhc⟩, ⟨vuA, vuc⟩, ⟨dA, dc⟩, ⟨vkA, vkc⟩, ⟨voA, voc⟩⟩ : CV) D ⟨lA, lc⟩ l p z.val (HCD0.out.below z.prop) (HL.out.below (by omega) (Below.step HBd.out z.prop)))
     simp only [CV.val, CV.cells] at HVI
     clear hxd hDl
     obtain ⟨s9, hs9⟩ : ∃ s9 : Bl wr, s9.val = wr := ⟨⟨wr, Below.refl _ _⟩, rfl⟩
     rw [← hs9] at rr3 ⊢
     clear hs9
     go_wp2_with (go_at_call 24; refine (HRU.out _).mono ?_; rintro e y1 ⟨sA, sc, R, e1, rfl, hb1, hc1⟩; obtain ⟨y1, rfl⟩ := Bl.on hb1; clear hb1; refine Hid.out ?_)
     refine Lib.hid ?_
     have HC1 := Lib.hid hc1; clear hc1
     go_wp2_with (go_at_call 25; refine (HVI.out _).mono ?_; rintro e y2 ⟨vA, vc, view, e2, rfl, hb2, hc2⟩; refine Hid.out ?_)
     refine Lib.hid ?_
     have HP1 : Hid (Below wr.heap.size wr y2) := Below.step y1.prop hb2
     have HY := Lib.hid hb2
     have HC2 := Lib.hid hc2
     clear hb2 hc2
     cases q1 : (e1 == 0) with
     | false =>
      have q1n : ¬ (e1 = 0) := by rw [beq_eq_false_iff_ne] at q1; exact q1
      have q1b : (e1 != 0) = true := by simpa using q1n
      go_wp2
      go_ret
      exact ⟨rfl, Below.step HBd.out HP1.out⟩
     | true =>
      obtain rfl : e1 = 0 := by rw [beq_iff_eq] at q1; exact q1
      obtain ⟨HG, HR, HRN⟩ : Hid (Good D l) ∧ Hid (R = D.trail l l.length) ∧ Hid (StatesAt y2 ⟨sA, sc⟩ R) := by
       rcases HC1.out with ⟨_, h2, h3, h4⟩ | ⟨h1, _⟩
       · exact ⟨h2, h3, h4.at.below HY.out⟩
       · exact absurd rfl h1
      clear q1 HC1 HRU HVI
      cases q2 : (e2 == 0) with
      | false =>
       have q2n : ¬ (e2 = 0) := by rw [beq_eq_false_iff_ne] at q2; exact q2
       have q2b : (e2 != 0) = true := by simpa using q2n
       go_wp2
       go_ret
       exact ⟨rfl, Below.step HBd.out HP1.out⟩
      | true =>
       obtain rfl : e2 = 0 := by rw [beq_iff_eq] at q2; exact q2
       obtain ⟨HPA, HVW, HAT⟩ : Hid (0 ≤ p ∧ p < D.parties) ∧ Hid (view = viewTo D l [p] l.length) ∧ Hid (At y2 1 vA view.length vc (ints view)) := by
        rcases HC2.out with ⟨_, _, h3, h4, h5⟩ | ⟨h1, _⟩
        · exact ⟨h3, h4, h5⟩
        · exact absurd rfl h1
       clear q2 HC2 HY
       have HB1 : Hid (Below w.heap.size w y2) := Below.step HBd.out HP1.out
       have k0 := kup HP1.out q0_0
       have k1 := kup HP1.out q0_1
       have k2 := kup HP1.out q0_2
       have k3 := kup HP1.out q0_3
       have k4 := kup HP1.out q0_4
       have k5 := kup HP1.out q0_5
       have k6 := kup HP1.out q0_6
       clear q0_0 q0_1 q0_2 q0_3 q0_4 q0_5 q0_6
       have HWA := Lib.hid (fun z : Bl y2 => watch_any (⟨⟨vhA, vhc⟩, ⟨vuA, vuc⟩, ⟨dA, dc⟩, ⟨vkA, vkc⟩, ⟨voA, voc⟩⟩ : CV) D p ⟨vA, vc⟩ view z.val (HCD0.out.below (Below.step HP1.out z.prop)) (HAT.out.below (by omega) z.prop) (HT.out.below (Below.step HB1.out z.prop)))
       simp only [CV.val, CV.cells] at HWA
       have HSEE : Hid (Sees D p (fun _ => True)) := pub_sees HPA.out HALL.out
       obtain ⟨s1, hs1⟩ : ∃ s1 : Bl y2, s1.val = y2 := ⟨⟨y2, Below.refl _ _⟩, rfl⟩
       rw [← hs1]
       clear hs1
       go_wp2_with (go_at_call 18; refine (HWA.out _).mono ?_; rintro e z1 ⟨qq, A, c, r, er, rfl, hb1, hcase⟩; refine Hid.out ?_)
       refine Lib.hid ?_
       obtain ⟨zb, HZB⟩ : ∃ zb : Bl y2, Hid (Below zb.val.heap.size zb.val z1 ∧ ((er = 0 ∧ qq = p ∧ StatesN zb.val.heap.size z1 ⟨A, c⟩ r ∧ WatchOk D p view r) ∨ (er ≠ 0 ∧ qq = 0 ∧ A = none ∧ c = 0 ∧ r = [] ∧ WatchEr D p view er))) := ⟨_, hb1, hcase⟩
       clear hb1 hcase HWA
       go_upto_region 18 with (fail)
       obtain ⟨W2, HW2⟩ : ∃ W2, Hid (W2 = z1.alloc (.cells #[.int .i64 qq, .slice A r.length c] 30)) := ⟨_, rfl⟩
       rw [← HW2.out]
       have hb2 : Below z1.heap.size z1 W2 := by rw [HW2.out]; exact Below.alloc' (Below.refl _ _) _
       have hx2 : W2.heap[z1.heap.size]? = some (.cells #[.int .i64 qq, .slice A r.length c] 30 (0, 0)) := by rw [HW2.out]; exact heap_alloc_new z1 _
       have HP2 : Hid (Below y2.heap.size y2 W2) := Below.step (Below.step zb.prop HZB.out.1) hb2
       have HB2 : Hid (Below w.heap.size w W2) := Below.step HB1.out HP2.out
       obtain ⟨d0, d1⟩ := kc2 hx2
       have m0 := kup HP2.out k0
       have m1 := kup HP2.out k1
       have m2 := kup HP2.out k2
       have m3 := kup HP2.out k3
       have m4 := kup HP2.out k4
       have m5 := kup HP2.out k5
       have m6 := kup HP2.out k6
       clear hx2 k0 k1 k2 k3 k4 k5 k6
       obtain ⟨s2, hs2⟩ : ∃ s2 : Bl W2, s2.val = W2 := ⟨⟨W2, Below.refl _ _⟩, rfl⟩
       rw [← hs2]
       clear hs2
       obtain ⟨H0, HQ, HSN, HOK⟩ : Hid (er = 0) ∧ Hid (qq = p) ∧ Hid (StatesAt z1 ⟨A, c⟩ r) ∧ Hid (Watched D p view r) := by
        rcases HZB.out.2 with ⟨e1, e2, e3, e4⟩ | ⟨_, _, _, _, _, e6⟩
        · exact ⟨e1, e2, e3.at, e4.2⟩
        · rw [HVW.out, HSEE.out.view HG.out l.length (Nat.le_refl _), List.take_length] at e6
          exact absurd e6 (HSEE.out.noErr HG.out HPA.out _)
       have h0 := H0.out
       have hq := HQ.out
       subst h0 hq
       clear H0 HQ HZB
       have hrl : R.length = l.length + 1 := by rw [HR.out, trail_len]
       have HLS : Hid (R[l.length]? = some (D.att l)) := by show _ = _; rw [HR.out, trail_get (Nat.le_refl _), List.take_length]
       obtain ⟨b1, o1, hA1, hl1, hc1⟩ := HRN.out.form (by omega)
       try simp only at hA1
       subst hA1
       obtain ⟨⟨⟨shA, shc⟩, ⟨suA, suc⟩, ⟨smA, smc⟩⟩, hst, hcs⟩ := hc1 l.length _ HLS.out
       have HSL : Hid (∀ z : Bl W2, StateAt z.val (⟨⟨shA, shc⟩, ⟨suA, suc⟩, ⟨smA, smc⟩⟩ : TV) (D.att l)) := fun z => hst.below (Below.step HP2.out z.prop)
       generalize hls : D.att l = s at hcs HSL
       have HSS := Lib.hid hls
       have e0 : ∀ z : Bl W2, z.val.cell? ⟨b1, o1 + l.length * 4, none⟩ = some (.int .i64 s.day) := fun z => hcs z.val (Below.step HP2.out z.prop) 0 (by omega)
       have e1 : ∀ z : Bl W2, z.val.cell? ⟨b1, o1 + l.length * 4 + 1, none⟩ = some (.slice shA s.holders.length shc) := fun z => hcs z.val (Below.step HP2.out z.prop) 1 (by omega)
       have e2 : ∀ z : Bl W2, z.val.cell? ⟨b1, o1 + l.length * 4 + 2, none⟩ = some (.slice suA s.used.length suc) := fun z => hcs z.val (Below.step HP2.out z.prop) 2 (by omega)
       have e3 : ∀ z : Bl W2, z.val.cell? ⟨b1, o1 + l.length * 4 + 3, none⟩ = some (.slice smA s.marks.length smc) := fun z => hcs z.val (Below.step HP2.out z.prop) 3 (by omega)
       clear hl1 hc1 hst hcs hls
       have hr1 : r = [s] := by
        have h1 := HOK.out
        have h2 := HSEE.out.view HG.out l.length (Nat.le_refl _)
        rw [HVW.out, h2] at h1
        have h3 := HSEE.out.alone HG.out l.length r (Nat.le_refl _) h1
        rw [List.take_length, HSS.out] at h3
        exact h3
       subst hr1
       obtain ⟨b2, o2, hA2, hl2, hc2⟩ := HSN.out.form (by simp)
       try simp only at hA2
       subst hA2
       obtain ⟨⟨⟨rhA, rhc⟩, ⟨ruA, ruc⟩, ⟨rmA, rmc⟩⟩, hrt, hrc⟩ := hc2 0 s rfl
       have y0 : ∀ z : Bl W2, z.val.cell? ⟨b2, o2, none⟩ = some (.int .i64 s.day) := fun z => by have h := hrc z.val (Below.step hb2 z.prop) 0 (by omega); simp only [Nat.zero_mul, Nat.add_zero] at h; exact h
       have y1 : ∀ z : Bl W2, z.val.cell? ⟨b2, o2 + 1, none⟩ = some (.slice rhA s.holders.length rhc) := fun z => by have h := hrc z.val (Below.step hb2 z.prop) 1 (by omega); simp only [Nat.zero_mul, Nat.add_zero] at h; exact h
       have y2 : ∀ z : Bl W2, z.val.cell? ⟨b2, o2 + 2, none⟩ = some (.slice ruA s.used.length ruc) := fun z => by have h := hrc z.val (Below.step hb2 z.prop) 2 (by omega); simp only [Nat.zero_mul, Nat.add_zero] at h; exact h
       have y3 : ∀ z : Bl W2, z.val.cell? ⟨b2, o2 + 3, none⟩ = some (.slice rmA s.marks.length rmc) := fun z => by have h := hrc z.val (Below.step hb2 z.prop) 3 (by omega); simp only [Nat.zero_mul, Nat.add_zero] at h; exact h
       have HSA := Lib.hid (fun z : Bl W2 => same_any (⟨⟨rhA, rhc⟩, ⟨ruA, ruc⟩, ⟨rmA, rmc⟩⟩ : TV) (⟨⟨shA, shc⟩, ⟨suA, suc⟩, ⟨smA, smc⟩⟩ : TV) s s z.val (hrt.below (Below.step hb2 z.prop)) (HSL.out z))
       simp only [TV.val, TV.cells, KState.cells] at HSA
       rw [eqB_self] at HSA
       simp only [List.length_cons, List.length_nil, Nat.zero_add] at d1
       have x1 : ((R.length : Int) == (l.length : Int) + 1) = true := by rw [beq_iff_eq]; omega
       have x2 : (l.length : Int) < (R.length : Int) := by omega
       have x3 : (l.length : Int) + 1 ≤ 9223372036854775807 := by have := HG.out.len; omega
       clear hb2 hrl hc2 hrc hrt hl2
       have HIT := Lib.hid (fun z : Bl W2 => ints_any ⟨vA, vc⟩ ⟨lA, lc⟩ view l z.val (HAT.out.below (by omega) (Below.step HP2.out z.prop)) (HL.out.below (by omega) (Below.step HB2.out z.prop)))
       have hvl : view = l := by rw [HVW.out, HSEE.out.view HG.out l.length (Nat.le_refl _), List.take_length]
       rw [eqB_iff.2 hvl] at HIT
       clear hvl
       go_wp2_with fail
       refine wp_region_bl (by kernel_rfl) (by kernel_rfl) ?_
       repeat (go_big_quiet_step ((first | (go_at_call 30; exact Calls.bl_of (HSA.out _)) | (go_at_call 28; exact Calls.bl_of (HIT.out _)))))
       refine wpQuiet_nil ?_
       rintro _ ⟨zq, rfl⟩
       go_wp2
       go_ret
       exact ⟨rfl, Below.step HB2.out (Bl.prop _)⟩
end Go.Proofs.YtaielhafpmjkaaaGreatDoor
