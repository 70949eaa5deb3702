/-
  Hid
-/
import Derived.Test.YtaielhafpmjkaaaGreatDoorQ27
import Derived.Test.YtaielhafpmjkaaaGreatDoorQ26
import Derived.Test.YtaielhafpmjkaaaGreatDoorQ11
namespace Go.Proofs.YtaielhafpmjkaaaGreatDoor
open Go.RowKit
def nameOne (C : KCon) (ms : List KMark) (j : Nat) (l : List Bool) : List Bool :=
 match C.clauses[j]?, ms[j]? with
 | some k, some m => cond m.runs (cond (k.pause == -1) (l.set k.act.toNat true) (((l.set k.act.toNat true).set k.pause.toNat true).set k.resume.toNat true)) l
 | _, _ => l
def namedTo (C : KCon) (ms : List KMark) : Nat → List Bool
 | 0 => List.replicate C.acts.length false
 | j + 1 => nameOne C ms j (namedTo C ms j)
theorem nameOne_len (C : KCon) (ms : List KMark) (j : Nat) (l : List Bool) : (nameOne C ms j l).length = l.length := by
 unfold nameOne
 split
 · rename_i k m _ _
   cases m.runs <;> cases (k.pause == -1) <;> simp
 · rfl
theorem namedTo_len (C : KCon) (ms : List KMark) : ∀ j, (namedTo C ms j).length = C.acts.length
 | 0 => by simp [namedTo]
 | j + 1 => by rw [namedTo, nameOne_len, namedTo_len C ms j]
def hidB (C : KCon) (s : KState) (p : Int) (i : Nat) : Bool :=
 match C.acts[i]? with
 | some a => ((namedTo C s.marks s.marks.length).getD i false) && ((a.kind == 1) && ((!(a.tgt == -1)) && (!(C.sees s p i))))
 | none => false
def hidTo (C : KCon) (s : KState) (p : Int) (k : Nat) : List Int := ((List.range k).filter (hidB C s p)).map Int.ofNat
def KCon.hid (C : KCon) (s : KState) (p : Int) : List Int := hidTo C s p C.acts.length
theorem hidTo_succ (C : KCon) (s : KState) (p : Int) (k : Nat) : hidTo C s p (k + 1) = hidTo C s p k ++ cond (hidB C s p k) [(k : Int)] [] := by
 unfold hidTo
 rw [List.range_succ, List.filter_append, List.map_append]
 cases h : hidB C s p k <;> simp [h]
theorem hidTo_len (C : KCon) (s : KState) (p : Int) (k : Nat) : (hidTo C s p k).length ≤ k := by
 unfold hidTo
 rw [List.length_map]
 exact Nat.le_trans (List.length_filter_le _ _) (by simp)
def IntsPost (l : List Int) (w : World) (e : Ending) (w' : World) : Prop := ∃ A c, e = .returned (.slice A l.length c) ∧ At w' 1 A l.length c (ints l) ∧ Below w.heap.size w w'
theorem ints_one (l : List Int) : ∀ u ∈ ints l, u.oneCell' = true := by
 intro u hu
 simp only [ints, List.mem_map] at hu
 obtain ⟨_, _, rfl⟩ := hu
 rfl
theorem ownsRow_at {w : World} {B : Nat} {e : TypeId} {size n : Nat} {v : Value} {xs : List Value} (h : w.ownsRow B e size v n xs) (h1 : ∀ u ∈ xs, u.oneCell' = true) : ∃ A c, v = .slice A n c ∧ At w size A n c xs := by
 rcases h.2 with ⟨rfl, rfl⟩ | ⟨g, cap, cur, rfl, _, h3, h4, h5, h6, h7⟩
 · exact ⟨none, 0, rfl, ⟨h.1, h1, fun h0 => by omega⟩, fun _ => ⟨rfl, rfl⟩, Nat.le_refl _, Nat.zero_le _⟩
 · refine ⟨_, cap, rfl, ⟨h.1, h1, fun _ => ⟨_, rfl, fun j u hu => ?_⟩⟩, (fun h => by cases h), h4, h5⟩
   rw [Addr.add_lit, cell_of_row w g (0 + j) cur e (0, 0) h3, ← h7, List.getElem?_take] at *
   split at hu
   · simpa using hu
   · cases hu
theorem bools_set (l : List Bool) (i : Nat) (x : Bool) : (bools l).set i (.bool x) = bools (l.set i x) := by simp [bools, List.map_set]
theorem bools_get {l : List Bool} {j : Nat} (hj : j < l.length) : (bools l).toArray[j]? = some (.bool (l.getD j false)) := by
 simp [bools, hj]
set_option maxRecDepth 100000 in
set_option maxHeartbeats 4000000 in
theorem hidden_any (v : CV) (C : KCon) (tv : TV) (s : KState) (p : Int) (w : World) (hC : ConAt w v C) (hS : StateAt w tv s) (hO : StateOk C s) : Calls Tryz.prog 83 #[v.val C, tv.val s, .int .i64 p] w (IntsPost (C.hid s p) w) := by
 obtain ⟨⟨vhA, vhc⟩, ⟨vuA, vuc⟩, ⟨vaA, vac⟩, ⟨vkA, vkc⟩, ⟨voA, voc⟩⟩ := v
 obtain ⟨⟨thA, thc⟩, ⟨tuA, tuc⟩, ⟨tmA, tmc⟩⟩ := tv
 have HK := Lib.hid (KCon.ok hO.con)
 have hna := HK.out.nacts
 have hnc := HK.out.nclauses
 have HLM := Lib.hid hO.lm
 have hlm : s.marks.length ≤ 400 := by rw [HLM.out]; exact hnc
 have HC := Lib.hid hC; clear hC
 have HS := Lib.hid hS; clear hS
 have HO := Lib.hid hO; clear hO
 simp only [CV.val, CV.cells, TV.val, TV.cells, KState.cells]
 go_enter Tryz.func83, Tryz.ntmps83
 go_upto_region 1 with (fail)
 generalize hW0 : World.alloc _ _ = W0
 obtain ⟨HB, hh0, hh1⟩ := bx2 hW0
 have HW0 := Lib.hid hW0.symm
 clear hW0
 obtain ⟨k0_0, k0_1, k0_2, k0_3, k0_4, k0_5, k0_6⟩ := kc7 hh0
 clear hh0
 obtain ⟨k1_0, k1_1, k1_2, k1_3⟩ := kc4 hh1
 clear hh1
 have a3 := k0_3 default
 have hw0 : w.heap.size + 1 < W0.heap.size := by rw [HW0.out]; simp
 have HCB : Hid (∀ z : Bl W0, ConAt z.val (⟨⟨vhA, vhc⟩, ⟨vuA, vuc⟩, ⟨vaA, vac⟩, ⟨vkA, vkc⟩, ⟨voA, voc⟩⟩ : CV) C) := fun z => HC.out.below (Below.step HB.out z.prop)
 have HSB : Hid (∀ z : Bl W0, StateAt z.val (⟨⟨thA, thc⟩, ⟨tuA, tuc⟩, ⟨tmA, tmc⟩⟩ : TV) s) := fun z => HS.out.below (Below.step HB.out z.prop)
 have HSE : Hid (∀ (i : Nat) (z : Bl W0), Calls Tryz.prog 22 #[.agg #[.int .i64 C.parties, .slice vhA C.holders.length vhc, .slice vuA C.units.length vuc, .slice vaA C.acts.length vac, .slice vkA C.clauses.length vkc, .int .i64 C.days, .slice voA C.off.length voc], .agg #[.int .i64 s.day, .slice thA s.holders.length thc, .slice tuA s.used.length tuc, .slice tmA s.marks.length tmc], .int .i64 p, .int .i64 i] z.val (RetB (.bool (C.sees s p i)) z.val)) := fun i z => seesPub_any (⟨⟨vhA, vhc⟩, ⟨vuA, vuc⟩, ⟨vaA, vac⟩, ⟨vkA, vkc⟩, ⟨voA, voc⟩⟩ : CV) C (⟨⟨thA, thc⟩, ⟨tuA, tuc⟩, ⟨tmA, tmc⟩⟩ : TV) s p i z.val (HCB.out z) (HSB.out z)
 obtain ⟨ib, hbi, hbz, hbs, hbb⟩ := info_parts' (P := Tryz.prog) (t := 4) (z := some (.bool false)) (s := 1) (b := 1) (by kernel_rfl)
 obtain ⟨ii, hii, hiz, his, hib⟩ := info_parts' (P := Tryz.prog) (t := 3) (z := some (.int .i64 0)) (s := 1) (b := 8) (by kernel_rfl)
 have a3' : W0.cell? ⟨w.heap.size, 3, none⟩ = some (.slice vaA C.acts.length vac) := a3
 clear a3
 go_wp2_with (at_make; refine wpList_make_full _ rfl _ _ 40 rfl W0.heap.size 4 ib (.bool false) 1 Tryz.underlying40 hbi hbz hbs .i64 .i64 _ _ C.acts.length rfl rfl rfl rfl (by rw [hbb]; omega) (by unfold maxLen; omega) (Nat.le_refl _) ?_; intro W1 hown hgr; refine Hid.out ?_)
 refine Lib.hid ?_
 have HB1 : Hid (Below W0.heap.size W0 W1) := ⟨hgr.os, hgr.tape, hgr.output, hgr.size, fun k hk => hgr.block k hk (by simp)⟩
 obtain ⟨gn, hgn, hblk⟩ : ∃ gn, gn = W0.heap.size ∧ W1.heap[gn]? = some (.cells (bools (namedTo C s.marks 0)).toArray 4 (0, 0)) := by
  refine ⟨_, rfl, ?_⟩
  rw [made_bools] at hown
  rcases hown.2 with ⟨h, _⟩ | ⟨g, cap, cur, h, _, h3, h4, h5, h6, h7⟩
  · cases h
  · simp only [Value.slice.injEq, Option.some.injEq, Addr.mk.injEq, and_true] at h
    obtain ⟨rfl, _, rfl⟩ := h
    rw [h3]
    congr 2
    apply Array.ext'
    rw [List.take_of_length_le (by simp [h6])] at h7
    rw [h7]
    rfl
 rw [← hgn]
 have HBL := Lib.hid hblk; clear hblk hown hgr
 have hgl : W0.heap.size ≤ gn := by omega
 have hgw : gn < W1.heap.size := lt_of_heap HBL.out
 clear hgn a3'
 have b3 : W1.cell? ⟨w.heap.size + 1, 3, none⟩ = some (.slice tmA s.marks.length tmc) := k1_3 ⟨W1, HB1.out⟩
 go_wp2
 go_loopw [21] (fun i wr => ∃ k : Nat, k ≤ s.marks.length ∧ i = .int .i64 k ∧ Hid (wr.heap[gn]? = some (.cells (bools (namedTo C s.marks k)).toArray 4 (0, 0))) ∧ Hid (Below W0.heap.size W0 wr)) (fun i _ => s.marks.length - (intOf i).toNat)
 case atStart => exact ⟨0, Nat.zero_le _, rfl, HBL, HB1⟩
 case round =>
  obtain ⟨k, hk, rfl, HN, HW⟩ := hrel
  clear b3 HBL HB1 hgw
  by_cases hlt : k < s.marks.length
  · obtain ⟨m, hm⟩ : ∃ m, s.marks[k]? = some m := ⟨_, List.getElem?_eq_getElem hlt⟩
    obtain ⟨c, hc⟩ : ∃ c, C.clauses[k]? = some c := ⟨_, List.getElem?_eq_getElem (by rw [← HLM.out]; exact hlt)⟩
    have hck := HK.out.clause hc
    obtain ⟨hb, hoff, hA, hbl, hcell⟩ := (HSB.out ⟨wr, HW.out⟩).marks.1.form (by omega) (by omega)
    simp only at hA
    subst hA
    have hmc : ∀ j, j < 5 → wr.cell? ⟨hb, hoff + k * 5 + j, none⟩ = m.cells[j]? := fun j hj => by
     rw [Nat.add_assoc]
     exact (hcell _ (by omega)).trans (get_flat KMark.cells 5 (fun _ => rfl) s.marks k j m hm hj)
    obtain ⟨kb, koff, st, hKA, hkb, hkc, _⟩ := (HCB.out ⟨wr, HW.out⟩).clause hc
    simp only at hKA
    subst hKA
    have HE : Hid (namedTo C s.marks (k + 1) = nameOne C s.marks k (namedTo C s.marks k)) := rfl
    have HNO : Hid (nameOne C s.marks k (namedTo C s.marks k) = cond m.runs (cond (c.pause == -1) ((namedTo C s.marks k).set c.act.toNat true) ((((namedTo C s.marks k).set c.act.toNat true).set c.pause.toNat true).set c.resume.toNat true)) (namedTo C s.marks k)) := by
     show _ = _
     simp only [nameOne, hc, hm]
    have hnl := namedTo_len C s.marks k
    generalize namedTo C s.marks k = L at HN HE HNO hnl
    have HNL := Lib.hid hnl; clear hnl hm hc hcell
    obtain ⟨m0, m1, m2, m3, m4⟩ := m
    obtain ⟨c0, c1, c2, c3, c4⟩ := rw5 hmc rfl
    clear hmc
    have q0 : (0 : Int) ≤ (k : Int) := by omega
    have q1 : (k : Int) < (s.marks.length : Int) := by omega
    have q2 : (k : Int) < (C.clauses.length : Int) := by rw [← HLM.out]; exact q1
    have hsw := HW.out.size
    have HGW := Lib.hid (lt_of_heap HN.out)
    go_upto_region 5 with (fail)
    obtain ⟨Wa, HWa⟩ : ∃ Wa, Hid (Wa = wr.alloc (.cells #[.int .i64 m0, .int .i64 m1, .int .i64 m2, .int .i64 m3, .bool m4] 57)) := ⟨_, rfl⟩
    rw [← HWa.out]
    have hba : Below wr.heap.size wr Wa := by rw [HWa.out]; exact Below.alloc' (Below.refl _ _) _
    have HWA : Hid (Below W0.heap.size W0 Wa) := Below.step HW.out hba
    have HNA : Hid (Wa.heap[gn]? = _) := (hba.block gn HGW.out).trans HN.out
    have d0 : Wa.cell? ⟨wr.heap.size, 0, none⟩ = some (.int .i64 m0) := by
     have h := heap_alloc_new wr (.cells #[.int .i64 m0, .int .i64 m1, .int .i64 m2, .int .i64 m3, .bool m4] 57)
     rw [← HWa.out] at h
     exact (cell_of_row Wa _ 0 _ _ _ h).trans rfl
    have hkc2 := hkc Wa hba
    have hw4 : Wa.cell? ⟨w.heap.size, 4, none⟩ = some (.slice (some ⟨kb, koff, none⟩) C.clauses.length vkc) := k0_4 ⟨Wa, HWA.out⟩
    have hsa : wr.heap.size < Wa.heap.size := by rw [HWa.out]; simp
    clear c0 c1 c2 c3 c4 hkc hba
    cases qr : KMark.runs ⟨m0, m1, m2, m3, m4⟩ with
    | false =>
     have hq1 : (m0 != 1) = true := by
      simp only [KMark.runs, Bool.or_eq_false_iff, beq_eq_false_iff_ne] at qr
      simpa using qr.1
     have hq2 : (m0 != 2) = true := by
      simp only [KMark.runs, Bool.or_eq_false_iff, beq_eq_false_iff_ne] at qr
      simpa using qr.2
     have hq1' : (m0 == 1) = false := by simpa using hq1
     have hq2' : (m0 == 2) = false := by simpa using hq2
     rw [qr, cond_false] at HNO
     clear hkc2 hw4
     go_wp2
     go_roundw
     case rel => exact ⟨k + 1, by omega, by go_num, by show _ = _; rw [HE.out, HNO.out]; exact HNA.out, HWA⟩
     case measure => simp [intOf]; omega
    | true =>
     rw [qr, cond_true] at HNO
     have hq : (m0 != 1) = false ∨ ((m0 != 1) = true ∧ (m0 != 2) = false) := by
      simp only [KMark.runs, Bool.or_eq_true, beq_iff_eq] at qr
      rcases qr with h | h
      · left; simpa using h
      · right; subst h; decide
     obtain ⟨k0, ro2, ac, ne, start, af, gr, bu, fi, pa, re, ⟨vn, vd⟩, un2, tg2, wa⟩ := c
     obtain ⟨stA, stc⟩ := st
     obtain ⟨x0, x1, x2, x3, x4, x5, x6, x7, x8, x9, x10, x11, x12, x13, x14, x15⟩ := rw16 hkc2 rfl
     clear hkc2
     have y0 := hck.act0
     have y1 := hck.act1
     simp only at y0 y1
     have HPR : Hid ((pa == -1) = false → (0 ≤ pa ∧ pa < C.acts.length) ∧ (0 ≤ re ∧ re < C.acts.length) ∧ pa ≠ re) := fun h => by
      have h1 := hck.pause (.inl (by simpa using h))
      have hnat : ∀ i, C.natural i = true → 0 ≤ i ∧ i < C.acts.length := fun i hi => by
       unfold KCon.natural KCon.actAt at hi
       by_cases h0 : 0 ≤ i
       · rw [if_pos h0] at hi
         cases ha : C.acts[i.toNat]? with
         | none => rw [ha] at hi; cases hi
         | some a =>
          have := (List.getElem?_eq_some_iff.1 ha).1
          omega
       · rw [if_neg h0] at hi; cases hi
      exact ⟨hnat _ h1.2.1, hnat _ h1.2.2, h1.1⟩
     clear hck
     rcases hq with hq | ⟨hq, hq2⟩
     · go_upto_region 7 with (fail)
       obtain ⟨Wb, HWb⟩ : ∃ Wb, Hid (Wb = Wa.alloc (.cells #[.int .i64 k0, .int .i64 ro2, .int .i64 ac, .int .i64 ne, .slice stA start.length stc, .int .i64 af, .int .i64 gr, .bool bu, .bool fi, .int .i64 pa, .int .i64 re, .int .i64 vn, .int .i64 vd, .int .i64 un2, .int .i64 tg2, .bool wa] 90)) := ⟨_, rfl⟩
       rw [← HWb.out]
       have hbb : Below Wa.heap.size Wa Wb := by rw [HWb.out]; exact Below.alloc' (Below.refl _ _) _
       have HWB : Hid (Below W0.heap.size W0 Wb) := Below.step HWA.out hbb
       have hgwa := lt_of_heap HNA.out
       have HNB : Hid (Wb.heap[gn]? = some (.cells (bools L).toArray 4 (0, 0))) := (hbb.block gn hgwa).trans HNA.out
       have hbx : Wb.heap[Wa.heap.size]? = some (.cells #[.int .i64 k0, .int .i64 ro2, .int .i64 ac, .int .i64 ne, .slice stA start.length stc, .int .i64 af, .int .i64 gr, .bool bu, .bool fi, .int .i64 pa, .int .i64 re, .int .i64 vn, .int .i64 vd, .int .i64 un2, .int .i64 tg2, .bool wa] 90 (0, 0)) := by
        have h := heap_alloc_new Wa (.cells #[.int .i64 k0, .int .i64 ro2, .int .i64 ac, .int .i64 ne, .slice stA start.length stc, .int .i64 af, .int .i64 gr, .bool bu, .bool fi, .int .i64 pa, .int .i64 re, .int .i64 vn, .int .i64 vd, .int .i64 un2, .int .i64 tg2, .bool wa] 90)
        rw [← HWb.out] at h
        exact h
       have e2 : Wb.cell? ⟨Wa.heap.size, 2, none⟩ = some (.int .i64 ac) := (cell_of_row Wb _ 2 _ _ _ hbx).trans rfl
       have e9 : Wb.cell? ⟨Wa.heap.size, 9, none⟩ = some (.int .i64 pa) := (cell_of_row Wb _ 9 _ _ _ hbx).trans rfl
       have e10 : Wb.cell? ⟨Wa.heap.size, 10, none⟩ = some (.int .i64 re) := (cell_of_row Wb _ 10 _ _ _ hbx).trans rfl
       have hfz : ∀ j, Wb.frozen? ⟨gn, j, none⟩ = false := fun j => by simp [World.frozen?, HNB.out]
       have hcl : ∀ j, j < C.acts.length → Wb.cell? ⟨gn, j, none⟩ = some (.bool (L.getD j false)) := fun j hj => by
        rw [cell_of_row _ _ j _ _ _ HNB.out]
        exact bools_get (by first | (rw [HNL.out]; exact hj) | (rw [List.length_set, HNL.out]; exact hj))
       have n0 := hcl ac.toNat (by omega)
       have n1 := hfz ac.toNat
       have HCL := Lib.hid hcl; clear hcl
       have HFZ := Lib.hid hfz; clear hfz
       have hng : Wa.heap.size ≠ gn := by omega
       clear x0 x1 x2 x3 x4 x5 x6 x7 x8 x9 x10 x11 x12 x13 x14 x15 hw4 d0 hbx
       go_upto_region 8 with (fail)
       obtain ⟨Wc, HWc⟩ : ∃ Wc, Hid (Wc = Wb.setCell ⟨gn, ac.toNat, none⟩ (.bool true)) := ⟨_, rfl⟩
       rw [← HWc.out]
       have HNC : Hid (Wc.heap[gn]? = some (.cells (bools (L.set ac.toNat true)).toArray 4 (0, 0))) := by
        show _ = _
        rw [HWc.out, heap_setCell_same HNB.out]
        congr 2
        apply Array.ext'
        simp [bools_set]
       have HWC : Hid (Below W0.heap.size W0 Wc) := by
        show Below _ _ _
        rw [HWc.out]
        exact HWB.out.setCell hgl _
       have hkeep : ∀ o u, Wb.cell? ⟨Wa.heap.size, o, none⟩ = some u → Wc.cell? ⟨Wa.heap.size, o, none⟩ = some u := fun o u h => by
        rw [HWc.out, World.cell?_setCell_other _ _ _ _ (fun e => hng (by first | exact congrArg Addr.block e | exact (congrArg Addr.block e).symm))]
        exact h
       have f9 := hkeep _ _ e9
       have f10 := hkeep _ _ e10
       clear e2 e9 e10 n0 n1 hkeep
       cases qp : (pa == -1) with
       | true =>
        have qp' : (pa != -1) = false := by simpa using qp
        go_wp2
        go_roundw
        case rel => exact ⟨k + 1, by omega, by go_num, by show _ = _; rw [HE.out, HNO.out, qp, cond_true]; exact HNC.out, HWC⟩
        case measure => simp [intOf]; omega
       | false =>
        have qp' : (pa != -1) = true := by simpa using qp
        obtain ⟨⟨p0, p1⟩, ⟨r0, r1⟩, hpr⟩ := HPR.out qp
        have hcl : ∀ j, j < C.acts.length → Wc.cell? ⟨gn, j, none⟩ = some (.bool ((L.set ac.toNat true).getD j false)) := fun j hj => by
         rw [cell_of_row _ _ j _ _ _ HNC.out]
         exact bools_get (by first | (rw [HNL.out]; exact hj) | (rw [List.length_set, HNL.out]; exact hj))
        have hfz : ∀ j, Wc.frozen? ⟨gn, j, none⟩ = false := fun j => by simp [World.frozen?, HNC.out]
        have n0 := hcl pa.toNat (by omega)
        have n1 := hfz pa.toNat
        have n2 := hcl re.toNat (by omega)
        have n3 := hfz re.toNat
        have hpr2 : pa.toNat ≠ re.toNat := by omega
        clear hcl hfz
        go_wp2
        go_region
        all_goals
         go_wp2
         go_roundw
         case rel => exact ⟨k + 1, by omega, by go_num, by
          show _ = _
          rw [HE.out, HNO.out, qp, cond_false]
          have h1 := heap_setCell_same (i := pa.toNat) HNC.out (.bool true)
          have h2 := heap_setCell_same (i := re.toNat) h1 (.bool true)
          refine Eq.trans h2 ?_
          congr 2
          apply Array.ext'
          simp [bools_set], by show Below _ _ _; exact ((HWC.out.setCell hgl _).setCell hgl _).drew⟩
         case measure => simp [intOf]; omega
     · go_upto_region 7 with (fail)
       obtain ⟨Wb, HWb⟩ : ∃ Wb, Hid (Wb = Wa.alloc (.cells #[.int .i64 k0, .int .i64 ro2, .int .i64 ac, .int .i64 ne, .slice stA start.length stc, .int .i64 af, .int .i64 gr, .bool bu, .bool fi, .int .i64 pa, .int .i64 re, .int .i64 vn, .int .i64 vd, .int .i64 un2, .int .i64 tg2, .bool wa] 90)) := ⟨_, rfl⟩
       rw [← HWb.out]
       have hbb : Below Wa.heap.size Wa Wb := by rw [HWb.out]; exact Below.alloc' (Below.refl _ _) _
       have HWB : Hid (Below W0.heap.size W0 Wb) := Below.step HWA.out hbb
       have hgwa := lt_of_heap HNA.out
       have HNB : Hid (Wb.heap[gn]? = some (.cells (bools L).toArray 4 (0, 0))) := (hbb.block gn hgwa).trans HNA.out
       have hbx : Wb.heap[Wa.heap.size]? = some (.cells #[.int .i64 k0, .int .i64 ro2, .int .i64 ac, .int .i64 ne, .slice stA start.length stc, .int .i64 af, .int .i64 gr, .bool bu, .bool fi, .int .i64 pa, .int .i64 re, .int .i64 vn, .int .i64 vd, .int .i64 un2, .int .i64 tg2, .bool wa] 90 (0, 0)) := by
        have h := heap_alloc_new Wa (.cells #[.int .i64 k0, .int .i64 ro2, .int .i64 ac, .int .i64 ne, .slice stA start.length stc, .int .i64 af, .int .i64 gr, .bool bu, .bool fi, .int .i64 pa, .int .i64 re, .int .i64 vn, .int .i64 vd, .int .i64 un2, .int .i64 tg2, .bool wa] 90)
        rw [← HWb.out] at h
        exact h
       have e2 : Wb.cell? ⟨Wa.heap.size, 2, none⟩ = some (.int .i64 ac) := (cell_of_row Wb _ 2 _ _ _ hbx).trans rfl
       have e9 : Wb.cell? ⟨Wa.heap.size, 9, none⟩ = some (.int .i64 pa) := (cell_of_row Wb _ 9 _ _ _ hbx).trans rfl
       have e10 : Wb.cell? ⟨Wa.heap.size, 10, none⟩ = some (.int .i64 re) := (cell_of_row Wb _ 10 _ _ _ hbx).trans rfl
       have hfz : ∀ j, Wb.frozen? ⟨gn, j, none⟩ = false := fun j => by simp [World.frozen?, HNB.out]
       have hcl : ∀ j, j < C.acts.length → Wb.cell? ⟨gn, j, none⟩ = some (.bool (L.getD j false)) := fun j hj => by
        rw [cell_of_row _ _ j _ _ _ HNB.out]
        exact bools_get (by first | (rw [HNL.out]; exact hj) | (rw [List.length_set, HNL.out]; exact hj))
       have n0 := hcl ac.toNat (by omega)
       have n1 := hfz ac.toNat
       have HCL := Lib.hid hcl; clear hcl
       have HFZ := Lib.hid hfz; clear hfz
       have hng : Wa.heap.size ≠ gn := by omega
       clear x0 x1 x2 x3 x4 x5 x6 x7 x8 x9 x10 x11 x12 x13 x14 x15 hw4 d0 hbx
       go_upto_region 8 with (fail)
       obtain ⟨Wc, HWc⟩ : ∃ Wc, Hid (Wc = Wb.setCell ⟨gn, ac.toNat, none⟩ (.bool true)) := ⟨_, rfl⟩
       rw [← HWc.out]
       have HNC : Hid (Wc.heap[gn]? = some (.cells (bools (L.set ac.toNat true)).toArray 4 (0, 0))) := by
        show _ = _
        rw [HWc.out, heap_setCell_same HNB.out]
        congr 2
        apply Array.ext'
        simp [bools_set]
       have HWC : Hid (Below W0.heap.size W0 Wc) := by
        show Below _ _ _
        rw [HWc.out]
        exact HWB.out.setCell hgl _
       have hkeep : ∀ o u, Wb.cell? ⟨Wa.heap.size, o, none⟩ = some u → Wc.cell? ⟨Wa.heap.size, o, none⟩ = some u := fun o u h => by
        rw [HWc.out, World.cell?_setCell_other _ _ _ _ (fun e => hng (by first | exact congrArg Addr.block e | exact (congrArg Addr.block e).symm))]
        exact h
       have f9 := hkeep _ _ e9
       have f10 := hkeep _ _ e10
       clear e2 e9 e10 n0 n1 hkeep
       cases qp : (pa == -1) with
       | true =>
        have qp' : (pa != -1) = false := by simpa using qp
        go_wp2
        go_roundw
        case rel => exact ⟨k + 1, by omega, by go_num, by show _ = _; rw [HE.out, HNO.out, qp, cond_true]; exact HNC.out, HWC⟩
        case measure => simp [intOf]; omega
       | false =>
        have qp' : (pa != -1) = true := by simpa using qp
        obtain ⟨⟨p0, p1⟩, ⟨r0, r1⟩, hpr⟩ := HPR.out qp
        have hcl : ∀ j, j < C.acts.length → Wc.cell? ⟨gn, j, none⟩ = some (.bool ((L.set ac.toNat true).getD j false)) := fun j hj => by
         rw [cell_of_row _ _ j _ _ _ HNC.out]
         exact bools_get (by first | (rw [HNL.out]; exact hj) | (rw [List.length_set, HNL.out]; exact hj))
        have hfz : ∀ j, Wc.frozen? ⟨gn, j, none⟩ = false := fun j => by simp [World.frozen?, HNC.out]
        have n0 := hcl pa.toNat (by omega)
        have n1 := hfz pa.toNat
        have n2 := hcl re.toNat (by omega)
        have n3 := hfz re.toNat
        have hpr2 : pa.toNat ≠ re.toNat := by omega
        clear hcl hfz
        go_wp2
        go_region
        all_goals
         go_wp2
         go_roundw
         case rel => exact ⟨k + 1, by omega, by go_num, by
          show _ = _
          rw [HE.out, HNO.out, qp, cond_false]
          have h1 := heap_setCell_same (i := pa.toNat) HNC.out (.bool true)
          have h2 := heap_setCell_same (i := re.toNat) h1 (.bool true)
          refine Eq.trans h2 ?_
          congr 2
          apply Array.ext'
          simp [bools_set], by show Below _ _ _; exact ((HWC.out.setCell hgl _).setCell hgl _).drew⟩
         case measure => simp [intOf]; omega
  · obtain rfl : k = s.marks.length := by omega
    have b3 : wr.cell? ⟨w.heap.size, 3, none⟩ = some (.slice vaA C.acts.length vac) := k0_3 ⟨wr, HW.out⟩
    generalize hNL : namedTo C s.marks s.marks.length = NL at HN
    have HHB : Hid (∀ i, hidB C s p i = match C.acts[i]? with | some a => (NL.getD i false) && ((a.kind == 1) && ((!(a.tgt == -1)) && (!(C.sees s p i)))) | none => false) := fun i => by
     unfold hidB
     rw [hNL]
    have hnl : NL.length = C.acts.length := by rw [← hNL]; exact namedTo_len _ _ _
    have HNL := Lib.hid hnl; clear hnl hNL
    go_wp2
    go_loopw [58, 11] (fun i v11 w2 => ∃ j : Nat, j ≤ C.acts.length ∧ i = .int .i64 j ∧ Hid (w2.ownsRow W0.heap.size 3 1 v11 (hidTo C s p j).length (ints (hidTo C s p j))) ∧ Hid (w2.heap[gn]? = some (.cells (bools NL).toArray 4 (0, 0))) ∧ Hid (Below W0.heap.size W0 w2)) (fun i _ _ => C.acts.length - (intOf i).toNat)
    case atStart => exact ⟨0, Nat.zero_le _, rfl, World.ownsRow_nil _ _ _ _, HN, HW⟩
    case round =>
     obtain ⟨j, hj, rfl, HR, HN2, HW2⟩ := hrel
     clear b3 HN HW
     by_cases hlt : j < C.acts.length
     · obtain ⟨a, ha⟩ : ∃ a, C.acts[j]? = some a := ⟨_, List.getElem?_eq_getElem hlt⟩
       obtain ⟨ab, aoff, hA, hab, hac⟩ := (HCB.out ⟨wr, HW2.out⟩).act ha
       simp only at hA
       subst hA
       have hac2 := hac wr (Below.refl _ _)
       have HD : Hid (hidB C s p j = ((NL.getD j false) && ((a.kind == 1) && ((!(a.tgt == -1)) && (!(C.sees s p j)))))) := by
        show _ = _
        rw [HHB.out, ha]
       have HH : Hid (hidTo C s p (j + 1) = hidTo C s p j ++ cond (hidB C s p j) [(j : Int)] []) := hidTo_succ C s p j
       have hhl := hidTo_len C s p j
       generalize hidTo C s p j = HL at HR HH hhl
       obtain ⟨ki, ro, gi, tg, un, ⟨ln, ld⟩⟩ := a
       simp only at HD
       obtain ⟨c0, c1, c2, c3, c4, c5, c6⟩ := rw7 hac2 rfl
       clear hac hac2 ha
       have q0 : (0 : Int) ≤ (j : Int) := by omega
       have q1 : (j : Int) < (C.acts.length : Int) := by omega
       have hsw := HW2.out.size
       have HGW := Lib.hid (lt_of_heap HN2.out)
       go_upto_region 15 with (fail)
       obtain ⟨Wa, HWa⟩ : ∃ Wa, Hid (Wa = wr.alloc (.cells #[.int .i64 ki, .int .i64 ro, .int .i64 gi, .int .i64 tg, .int .i64 un, .int .i64 ln, .int .i64 ld] 67)) := ⟨_, rfl⟩
       rw [← HWa.out]
       have hba : Below wr.heap.size wr Wa := by rw [HWa.out]; exact Below.alloc' (Below.refl _ _) _
       have HWA : Hid (Below W0.heap.size W0 Wa) := Below.step HW2.out hba
       have HNA : Hid (Wa.heap[gn]? = some (.cells (bools NL).toArray 4 (0, 0))) := (hba.block gn HGW.out).trans HN2.out
       have HRA := Lib.hid (ownsRow_below HR.out hba)
       have hax : Wa.heap[wr.heap.size]? = some (.cells #[.int .i64 ki, .int .i64 ro, .int .i64 gi, .int .i64 tg, .int .i64 un, .int .i64 ln, .int .i64 ld] 67 (0, 0)) := by
        have h := heap_alloc_new wr (.cells #[.int .i64 ki, .int .i64 ro, .int .i64 gi, .int .i64 tg, .int .i64 un, .int .i64 ln, .int .i64 ld] 67)
        rw [← HWa.out] at h
        exact h
       have d0 : Wa.cell? ⟨wr.heap.size, 0, none⟩ = some (.int .i64 ki) := (cell_of_row Wa _ 0 _ _ _ hax).trans rfl
       have d3 : Wa.cell? ⟨wr.heap.size, 3, none⟩ = some (.int .i64 tg) := (cell_of_row Wa _ 3 _ _ _ hax).trans rfl
       have dn : Wa.cell? ⟨gn, j, none⟩ = some (.bool (NL.getD j false)) := by
        rw [cell_of_row _ _ j _ _ _ HNA.out]
        exact bools_get (by rw [HNL.out]; exact hlt)
       have hsa : wr.heap.size < Wa.heap.size := by rw [HWa.out]; simp
       clear c0 c1 c2 c3 c4 c5 c6 hba hax hab HR HN2 HW2 HWa
       generalize NL.getD j false = nb at dn HD
       cases nb with
       | false =>
        go_wp2
        go_roundw
        case rel => exact ⟨j + 1, by omega, by go_num, by show World.ownsRow _ _ _ _ _ _ _; rw [HH.out, show hidB C s p j = false by rw [HD.out, Bool.false_and], cond_false, List.append_nil]; exact HRA.out, HNA, HWA⟩
        case measure => simp [intOf]; omega
       | true =>
        cases qk : (ki == 1) with
        | false =>
         go_wp2
         go_roundw
         case rel => exact ⟨j + 1, by omega, by go_num, by show World.ownsRow _ _ _ _ _ _ _; rw [HH.out, show hidB C s p j = false by rw [HD.out, qk, Bool.false_and, Bool.and_false], cond_false, List.append_nil]; exact HRA.out, HNA, HWA⟩
         case measure => simp [intOf]; omega
        | true =>
         cases qt : (tg == -1) with
         | true =>
          have qt' : (tg != -1) = false := by simpa using qt
          go_wp2
          go_roundw
          case rel => exact ⟨j + 1, by omega, by go_num, by show World.ownsRow _ _ _ _ _ _ _; rw [HH.out, show hidB C s p j = false by rw [HD.out, qt, Bool.not_true, Bool.false_and, Bool.and_false, Bool.and_false], cond_false, List.append_nil]; exact HRA.out, HNA, HWA⟩
          case measure => simp [intOf]; omega
         | false =>
          have qt' : (tg != -1) = true := by simpa using qt
          have g0_0 := k0_0 ⟨Wa, HWA.out⟩
          have g0_1 := k0_1 ⟨Wa, HWA.out⟩
          have g0_2 := k0_2 ⟨Wa, HWA.out⟩
          have g0_3 := k0_3 ⟨Wa, HWA.out⟩
          have g0_4 := k0_4 ⟨Wa, HWA.out⟩
          have g0_5 := k0_5 ⟨Wa, HWA.out⟩
          have g0_6 := k0_6 ⟨Wa, HWA.out⟩
          have g1_0 := k1_0 ⟨Wa, HWA.out⟩
          have g1_1 := k1_1 ⟨Wa, HWA.out⟩
          have g1_2 := k1_2 ⟨Wa, HWA.out⟩
          have g1_3 := k1_3 ⟨Wa, HWA.out⟩
          have hsj : ∀ z : Bl W0, _ := HSE.out j
          generalize C.sees s p j = sb at hsj HD
          have HSJ := Lib.hid hsj; clear hsj
          simp only at g0_0 g0_1 g0_2 g0_3 g0_4 g0_5 g0_6 g1_0 g1_1 g1_2 g1_3
          cases sb with
          | true =>
           go_wp2_with (go_at_call 22; refine (HSJ.out ⟨Wa, HWA.out⟩).mono ?_; rintro e z ⟨rfl, hz⟩; refine Hid.out ?_)
           refine Lib.hid ?_
           have HRZ := Lib.hid (ownsRow_below HRA.out hz)
           have HNZ : Hid (z.heap[gn]? = some (.cells (bools NL).toArray 4 (0, 0))) := (hz.block gn (lt_of_heap HNA.out)).trans HNA.out
           have HWZ : Hid (Below W0.heap.size W0 z) := Below.step HWA.out hz
           clear hz
           go_wp2
           go_roundw
           case rel => exact ⟨j + 1, by omega, by go_num, by show World.ownsRow _ _ _ _ _ _ _; rw [HH.out, show hidB C s p j = false by rw [HD.out]; simp, cond_false, List.append_nil]; exact HRZ.out, HNZ, HWZ⟩
           case measure => simp [intOf]; omega
          | false =>
           go_wp2_with (go_at_call 22; refine (HSJ.out ⟨Wa, HWA.out⟩).mono ?_; rintro e z ⟨rfl, hz⟩; refine Hid.out ?_)
           refine Lib.hid ?_
           have HRZ := Lib.hid (ownsRow_below HRA.out hz)
           have HNZ : Hid (z.heap[gn]? = some (.cells (bools NL).toArray 4 (0, 0))) := (hz.block gn (lt_of_heap HNA.out)).trans HNA.out
           have HWZ : Hid (Below W0.heap.size W0 z) := Below.step HWA.out hz
           clear hz
           have hsz := HWZ.out.size
           have HHB2 : Hid (hidB C s p j = true) := by show _ = _; rw [HD.out, qk, qt]; rfl
           go_wp2_with (at_builtin; refine wpList_append_one rfl _ _ 22 rfl 3 ii (.int .i64 0) 1 8 Tryz.underlying22 hii hiz his hib rfl (by decide) W0.heap.size _ _ _ rfl HRZ.out [.int .i64 j] _ rfl rfl (by intro u hu; rw [List.mem_singleton] at hu; subst hu; rfl) rfl (by unfold maxLen; omega) (by omega) hsz ?_; intro v5 w5 h1 h2 h3; refine Hid.out ?_)
           refine Lib.hid ?_
           have HR5 := Lib.hid h1; clear h1
           have HN5 : Hid (w5.heap[gn]? = some (.cells (bools NL).toArray 4 (0, 0))) := h3 gn _ HNZ.out (by simp) (by intro c fz h; simp at h)
           have HW5 : Hid (Below W0.heap.size W0 w5) := HWZ.out.trans h2
           clear h2 h3
           go_wp2
           go_roundw
           case rel => exact ⟨j + 1, by omega, by go_num, by show World.ownsRow _ _ _ _ _ _ _; rw [HH.out, HHB2.out, cond_true]; simpa [ints] using HR5.out, HN5, HW5⟩
           case measure => simp [intOf]; omega
     · obtain rfl : j = C.acts.length := by omega
       obtain ⟨A, c, rfl, hAt⟩ := ownsRow_at HR.out (ints_one _)
       have HAT := Lib.hid hAt; clear hAt
       go_wp2
       go_ret
       exact ⟨A, c, rfl, HAT.out, HB.out.trans (HW2.out.mono HB.out.size)⟩
end Go.Proofs.YtaielhafpmjkaaaGreatDoor
