/-
  CvJ
-/
import Derived.Test.YtahhdjeclbagnaaGreatDoorQ52
namespace Go.Proofs.YtahhdjeclbagnaaGreatDoor
open Go.RowKit Go.Shelf
attribute [local go_sem] stillB stillUpon makesUpon stillC
set_option maxRecDepth 100000 in
set_option maxHeartbeats 4000000 in
theorem joins_walkN (v : CV) (C : KCon) (sv : SV) (fs : List KFile) (raw : Nat) (w : World) (hC : ConAt w v C) (hF : FilesAt w sv fs) (hR : ∀ f ∈ fs, ∀ x ∈ f.facts, In64 x.ref) (hT : Tab w) (hraw : raw < 256) :
 Calls Tryz.prog 3 #[v.val C, .slice sv.A fs.length sv.c, .int .u8 (raw : Int)] w (RetB (.bool true) w) := by
 obtain ⟨⟨hA, hc⟩, ⟨uA, uc⟩, ⟨aA, ac⟩, ⟨kA, kc⟩, ⟨oA, oc⟩⟩ := v
 obtain ⟨sA, sc⟩ := sv
 have HC := Lib.hid hC; clear hC
 have HF := Lib.hid hF; clear hF
 have HT := Lib.hid hT; clear hT
 have HR := Lib.hid hR; clear hR
 simp only [CV.val, CV.cells]
 go_enter Tryz.func3, Tryz.ntmps3
 go_upto_region 1 with (fail)
 generalize hW0 : World.alloc _ _ = W0
 obtain ⟨HB0, h0⟩ := bx1 hW0
 have HX0 : Hid (CoAt W0 w.heap.size ⟨⟨hA, hc⟩, ⟨uA, uc⟩, ⟨aA, ac⟩, ⟨kA, kc⟩, ⟨oA, oc⟩⟩ C) := ⟨HC.out.below HB0.out, ⟨[], by rw [List.append_nil]; exact h0⟩⟩
 clear hW0 h0 HC
 have HH := Lib.hid (head_any W0 (HT.out.below HB0.out))
 go_wp2_with (go_at_call 9; refine HH.out.mono ?_; rintro _ W1 ⟨rfl, hb⟩; refine Hid.out ?_)
 refine Lib.hid ?_
 have HX1 := Lib.hid (HX0.out.below hb)
 have HB1 : Hid (Below w.heap.size w W1) := Below.step HB0.out hb
 clear hb HX0 HB0 HH
 obtain ⟨c0, c1, c2, c3, c4, c5, c6⟩ := HX1.out.cells
 simp only at c0 c1 c2 c3 c4 c5 c6
 have hs := lsmall_any ⟨⟨hA, hc⟩, ⟨uA, uc⟩, ⟨aA, ac⟩, ⟨kA, kc⟩, ⟨oA, oc⟩⟩ C fs ⟨sA, sc⟩ W1 HX1.out.con (HF.out.below HB1.out)
 simp only [CV.val, CV.cells] at hs
 have HS := Lib.hid hs; clear hs
 have hfl : fs.length ≤ 9223372036854775807 := by have := HF.out.len; omega
 go_wp2_with (go_at_call 10; refine HS.out.mono ?_; rintro _ W2 ⟨x, rfl, hs, hb⟩; refine Hid.out ?_)
 refine Lib.hid ?_
 have HX2 := Lib.hid (HX1.out.below hb)
 have HB2 : Hid (Below w.heap.size w W2) := Below.step HB1.out hb
 have HSM := Lib.hid hs
 clear hb hs HX1 HB1 HS c0 c1 c2 c3 c4 c5 c6
 cases x with
 | false =>
  go_wp2
  go_ret
  exact ⟨rfl, HB2.out⟩
 | true =>
  by_cases hnil : fs.length = 0
  · have q0 : ((fs.length : Int) == 0) = true := by simp [hnil]
    clear hnil
    go_wp2
    go_ret
    exact ⟨rfl, HB2.out⟩
  · have q0 : ((fs.length : Int) == 0) = false := by rw [beq_eq_false_iff_ne]; omega
    have hpos : 0 < fs.length := by omega
    clear hnil
    have hsl := smallF_len (HSM.out (by simp))
    have hl5 := hsl.1
    have hsf := small_facts hsl.2 (by omega)
    have HFE := Lib.hid hsl.2
    have HRA : Hid (∀ x ∈ factsOf fs, In64 x.ref) := fun x hx => by
     obtain ⟨f, hf, hxf⟩ := List.mem_flatMap.1 hx
     exact HR.out f hf x hxf
    have HSF := Lib.hid hsf
    obtain ⟨P, hP, hPA, hPF⟩ := HF.out.pairs
    have hPl : P.length = fs.length := by rw [← hP, List.length_map]
    have HP := Lib.hid hP
    have HPL := Lib.hid hPl
    have HPA := Lib.hid hPA
    have HPF := Lib.hid hPF
    clear hsf hsl HSM hP hPl hPA hPF
    obtain ⟨n, hn⟩ : ∃ n : Nat, n = raw % fs.length := ⟨_, rfl⟩
    have hnl : n < fs.length := by rw [hn]; exact Nat.mod_lt _ hpos
    have hmod : (raw : Int) % (fs.length : Int) = (n : Int) := by rw [hn]; rfl
    obtain ⟨si, hsi, hsz, hss, hsb⟩ := info_parts' (P := Tryz.prog) (t := 34) (z := some (.agg #[.int .i64 0, .slice none 0 0, .slice none 0 0])) (s := 3) (b := 56) (by kernel_rfl)
    go_upto_region 6 with (fail)
    rw [hmod]
    clear hmod q0
    have HN := Lib.hid hn; clear hn
    go_wp2
    go_loopg [10, 9] fs.length (fun gk v10 v9 wr => ∃ (i : Nat) (A : Option Addr) (c : Nat), gk = fs.length - i ∧ i ≤ fs.length ∧ v10 = .int .i64 i ∧ v9 = .slice A i c ∧ Hid (wr.ownsRow W2.heap.size 34 3 (.slice A i c) i (fileRow (P.reverse.take i))) ∧ Hid (Below W2.heap.size W2 wr))
    case atStart => exact ⟨0, none, 0, rfl, Nat.zero_le _, rfl, rfl, World.ownsRow_nil _ _ _ _, Below.refl _ _⟩
    case round =>
     obtain ⟨i, A9, c9, hgk, hi, rfl, rfl, HR9, HBW⟩ := hrel
     have HGK := Lib.hid hgk; clear hgk
     by_cases hlt : i < fs.length
     · have i0 : (i : Int) < (fs.length : Int) := by omega
       obtain ⟨fb, fo, hA0, hfb, hcell⟩ := HPA.out.1.form (by omega) (by omega)
       subst hA0
       obtain ⟨j, hj⟩ : ∃ j : Nat, j = fs.length - 1 - i := ⟨_, rfl⟩
       obtain ⟨⟨⟨ho, F, O⟩, ⟨⟨gA, gc⟩, ⟨qA, qc⟩⟩⟩, hp⟩ : ∃ p, P[j]? = some p := ⟨_, List.getElem?_eq_getElem (by rw [HPL.out]; omega)⟩
       have hwr : Below w.heap.size w wr := Below.step HB2.out HBW.out
       have hx : ∀ k, k < 3 → wr.cell? ⟨fb, fo + j * 3 + k, none⟩ = (FV.cells ⟨⟨gA, gc⟩, ⟨qA, qc⟩⟩ ⟨ho, F, O⟩)[k]? := fun k hk => by
        rw [hwr.cell (p := ⟨fb, fo + j * 3 + k, none⟩) hfb, Nat.add_assoc, hcell _ (by omega)]
        exact get_flat (fun p : KFile × FV => FV.cells p.2 p.1) 3 (fun _ => rfl) P j k _ hp hk
       have x0 := hx 0 (by omega)
       have x1 := hx 1 (by omega)
       have x2 := hx 2 (by omega)
       simp only [FV.cells, Nat.add_zero, List.getElem?_cons_zero, List.getElem?_cons_succ] at x0 x1 x2
       have HTN : Hid (fileRow (P.reverse.take (i + 1)) = fileRow (P.reverse.take i) ++ [.int .i64 ho, .slice gA F.length gc, .slice qA O.length qc]) := by
        show _ = _
        have h : P.reverse[i]? = some (⟨ho, F, O⟩, ⟨⟨gA, gc⟩, ⟨qA, qc⟩⟩) := by rw [List.getElem?_reverse (by rw [HPL.out]; omega), HPL.out, ← hj]; exact hp
        rw [take_snocX h]
        simp [fileRow, FV.cells]
       have hji : (fs.length : Int) - 1 - (i : Int) = (j : Int) := by omega
       have hz := HBW.out.size
       clear hx hp hcell hwr hj
       go_upto_region 9 with (fail)
       go_wp2_with (at_builtin; refine wpList_append_oneX rfl _ _ 28 rfl 34 si (.agg #[.int .i64 0, .slice none 0 0, .slice none 0 0]) 3 56 Tryz.underlying28 hsi hsz hss hsb rfl (by decide) W2.heap.size _ _ _ rfl HR9.out [.int .i64 ho, .slice gA F.length gc, .slice qA O.length qc] _ rfl rfl (by intro u hu; simp only [List.mem_cons, List.not_mem_nil, or_false] at hu; rcases hu with rfl | rfl | rfl <;> rfl) rfl (by unfold maxLen; omega) (by omega) hz ?_; intro g6 c6 w6 h1 h2; refine Hid.out ?_)
       refine Lib.hid ?_
       have HU6 : Hid (Upd (fun k => (Value.slice A9 i c9).ownBlock = some k) wr w6) := Upd.trans ((Upd.refl _ wr).alloc _) (Upd.of_grown h2) (fun i _ h => h)
       have HB6 : Hid (Below W2.heap.size W2 w6) := HBW.out.trans (HU6.out.below hz (fun k hk => (HR9.out.lt k hk).1))
       have HR6 : Hid (w6.ownsRow W2.heap.size 34 3 (.slice (some ⟨g6, 0, none⟩) (i + 1) c6) (i + 1) (fileRow (P.reverse.take (i + 1)))) := by
        show World.ownsRow _ _ _ _ _ _ _
        rw [HTN.out]
        exact h1
       clear h1 h2 x0 x1 x2 hji
       go_wp2
       go_roundg (fs.length - (i + 1))
       case measure => rw [HGK.out]; omega
       case rel => exact ⟨i + 1, _, _, rfl, by omega, by go_num, rfl, HR6, HB6⟩
     · obtain rfl : i = fs.length := by omega
       have HB3 : Hid (Below w.heap.size w wr) := Below.step HB2.out HBW.out
       have HFT : Hid (FilesAt wr ⟨A9, c9⟩ fs.reverse) := by
        have h := HR9.out
        rw [List.take_of_length_le (by rw [List.length_reverse, HPL.out]; exact Nat.le_refl _)] at h
        have h2 := FilesAt.own (P := P.reverse) (by rw [List.length_reverse, HPL.out]) h (fun p hp => (HPF.out p (List.mem_reverse.1 hp)).below HB3.out)
        rw [List.map_reverse, HP.out] at h2
        exact h2
       have HX3 := Lib.hid (HX2.out.below HBW.out)
       have HG : Hid (∀ gs : List KFile, (∀ g ∈ gs, g ∈ fs) → gs.length ≤ 100 → (∀ x ∈ factsOf gs, In64 x.ref) ∧ (factsOf gs).length ≤ 1400 ∧ (ordersOf gs).length ≤ 1400) := fun gs h h2 => ⟨fun x hx => by
        obtain ⟨f, hf, hxf⟩ := List.mem_flatMap.1 hx
        exact HR.out f (h f hf) x hxf, small_len (fun g hg => HFE.out g (h g hg)) h2⟩
       clear HR9 HBW HX2 HB2 HGK hlt hi
       generalize wr = W3 at HX3 HB3 HFT ⊢
       obtain ⟨c0, c1, c2, c3, c4, c5, c6⟩ := HX3.out.cells
       simp only at c0 c1 c2 c3 c4 c5 c6
       have hj := join_any ⟨⟨hA, hc⟩, ⟨uA, uc⟩, ⟨aA, ac⟩, ⟨kA, kc⟩, ⟨oA, oc⟩⟩ C ⟨sA, sc⟩ fs W3 HX3.out.con (HF.out.below HB3.out) (by omega) HRA.out HSF.out.1 HSF.out.2
       simp only [CV.val, CV.cells] at hj
       have HJ := Lib.hid hj; clear hj
       go_wp2_with (go_at_call 11; refine HJ.out.mono ?_; rintro _ W4 ⟨ho1, F1, O1, er1, A1, d1, B1, b1, rfl, hf, _, hb, hj⟩; refine Hid.out ?_)
       refine Lib.hid ?_
       have HJ1 := Lib.hid hj
       have hfa := hf
       have HB4 : Hid (Below w.heap.size w W4) := Below.step HB3.out hb
       have HX4 := Lib.hid (HX3.out.below hb)
       have HFT' := Lib.hid (HFT.out.below hb)
       clear HFT
       have HFT := HFT'
       clear HFT'
       clear hb hj hf HJ HX3 c0 c1 c2 c3 c4 c5 c6
       go_upto_region 11 with (fail)
       generalize hW5 : World.alloc _ _ = W5
       obtain ⟨hb, hh⟩ := bx1' hW5
       have HX5 := Lib.hid (HX4.out.below hb)
       have HY1 : Hid (FiAt W5 W4.heap.size ⟨⟨A1, d1⟩, ⟨B1, b1⟩⟩ ⟨ho1, F1, O1⟩) := ⟨hfa.below hb, ⟨[], by rw [List.append_nil]; exact hh⟩⟩
       have HB5 : Hid (Below w.heap.size w W5) := Below.step HB4.out hb
       have HFT' := Lib.hid (HFT.out.below hb)
       clear HFT
       have HFT := HFT'
       clear HFT'
       clear hW5 hb hh hfa HX4 HB3 HB4
       generalize W4.heap.size = ab at HY1 ⊢
       obtain ⟨c0, c1, c2, c3, c4, c5, c6⟩ := HX5.out.cells
       simp only at c0 c1 c2 c3 c4 c5 c6
       have hj := join_any ⟨⟨hA, hc⟩, ⟨uA, uc⟩, ⟨aA, ac⟩, ⟨kA, kc⟩, ⟨oA, oc⟩⟩ C ⟨A9, c9⟩ fs.reverse W5 HX5.out.con (HFT.out) (by rw [List.length_reverse]; omega) (HG.out _ (fun g hg => List.mem_reverse.1 hg) (by rw [List.length_reverse]; omega)).1 (Nat.le_trans (HG.out _ (fun g hg => List.mem_reverse.1 hg) (by rw [List.length_reverse]; omega)).2.1 (by omega)) (Nat.le_trans (HG.out _ (fun g hg => List.mem_reverse.1 hg) (by rw [List.length_reverse]; omega)).2.2 (by omega))
       simp only [CV.val, CV.cells] at hj
       simp only [List.length_reverse] at hj
       have HJ := Lib.hid hj; clear hj
       go_wp2_with (go_at_call 11; refine HJ.out.mono ?_; rintro _ W6 ⟨ho2, F2, O2, er2, A2, d2, B2, b2, rfl, hf, _, hb, hj⟩; refine Hid.out ?_)
       refine Lib.hid ?_
       have HJ2 := Lib.hid hj
       have hfa := hf
       have HB6 : Hid (Below w.heap.size w W6) := Below.step HB5.out hb
       have HX6 := Lib.hid (HX5.out.below hb)
       have HY1' := Lib.hid (HY1.out.below hb)
       clear HY1
       have HY1 := HY1'
       clear HY1'
       clear hb hj hf HJ HX5 c0 c1 c2 c3 c4 c5 c6
       go_upto_region 12 with (fail)
       generalize hW7 : World.alloc _ _ = W7
       obtain ⟨hb, hh⟩ := bx1' hW7
       have HX7 := Lib.hid (HX6.out.below hb)
       have HY2 : Hid (FiAt W7 W6.heap.size ⟨⟨A2, d2⟩, ⟨B2, b2⟩⟩ ⟨ho2, F2, O2⟩) := ⟨hfa.below hb, ⟨[], by rw [List.append_nil]; exact hh⟩⟩
       have HB7 : Hid (Below w.heap.size w W7) := Below.step HB6.out hb
       have HY1' := Lib.hid (HY1.out.below hb)
       clear HY1
       have HY1 := HY1'
       clear HY1'
       clear hW7 hb hh hfa HX6 HB5 HB6
       generalize W6.heap.size = bb at HY2 ⊢
       obtain ⟨fb, fo, hA0, hfb, hcell⟩ := HPA.out.1.form (by omega) (by omega)
       subst hA0
       obtain ⟨⟨⟨hon, Fn, On⟩, ⟨⟨gA, gc⟩, ⟨qA, qc⟩⟩⟩, hp⟩ : ∃ p, P[n]? = some p := ⟨_, List.getElem?_eq_getElem (by rw [HPL.out]; omega)⟩
       have HFN : Hid (fs[n]? = some ⟨hon, Fn, On⟩) := by show _ = _; rw [← HP.out, List.getElem?_map, hp]; rfl
       have HPN := Lib.hid (List.mem_of_getElem? hp)
       have HCE : Hid (∀ (Wz : World), Below w.heap.size w Wz → ∀ (j : Nat) (u : Value), (fileRow P)[j]? = some u → Wz.cell? ⟨fb, fo + j, none⟩ = some u) := fun Wz hz j u hj => by
        rw [hz.cell (p := ⟨fb, fo + j, none⟩) hfb, hcell j (by have h := (List.getElem?_eq_some_iff.1 hj).1; rw [fileRow_len, HPL.out] at h; exact h)]
        exact hj
       have HNC : Hid (∀ k, k < 3 → (fileRow P)[n * 3 + k]? = (FV.cells ⟨⟨gA, gc⟩, ⟨qA, qc⟩⟩ ⟨hon, Fn, On⟩)[k]?) := fun k hk => get_flat (fun p : KFile × FV => FV.cells p.2 p.1) 3 (fun _ => rfl) P n k _ hp hk
       clear hcell hp
       have x0 : ∀ q : Wl (fun z => Below W7.heap.size W7 z), q.val.cell? ⟨fb, fo + n * 3, none⟩ = some (.int .i64 hon) := fun q => HCE.out q.val (Below.step HB7.out q.prop) (n * 3 + 0) _ (HNC.out 0 (by omega))
       have x1 : ∀ q : Wl (fun z => Below W7.heap.size W7 z), q.val.cell? ⟨fb, fo + n * 3 + 1, none⟩ = some (.slice gA Fn.length gc) := fun q => HCE.out q.val (Below.step HB7.out q.prop) (n * 3 + 1) _ (HNC.out 1 (by omega))
       have x2 : ∀ q : Wl (fun z => Below W7.heap.size W7 z), q.val.cell? ⟨fb, fo + n * 3 + 2, none⟩ = some (.slice qA On.length qc) := fun q => HCE.out q.val (Below.step HB7.out q.prop) (n * 3 + 2) _ (HNC.out 2 (by omega))
       have c0 : ∀ q : Wl (fun z => Below W7.heap.size W7 z), q.val.cell? ⟨w.heap.size, 0, none⟩ = some (.int .i64 C.parties) := fun q => (HX7.out.below q.prop).cbox.cell rfl
       have c1 : ∀ q : Wl (fun z => Below W7.heap.size W7 z), q.val.cell? ⟨w.heap.size, 1, none⟩ = some (.slice hA C.holders.length hc) := fun q => (HX7.out.below q.prop).cbox.cell rfl
       have c2 : ∀ q : Wl (fun z => Below W7.heap.size W7 z), q.val.cell? ⟨w.heap.size, 2, none⟩ = some (.slice uA C.units.length uc) := fun q => (HX7.out.below q.prop).cbox.cell rfl
       have c3 : ∀ q : Wl (fun z => Below W7.heap.size W7 z), q.val.cell? ⟨w.heap.size, 3, none⟩ = some (.slice aA C.acts.length ac) := fun q => (HX7.out.below q.prop).cbox.cell rfl
       have c4 : ∀ q : Wl (fun z => Below W7.heap.size W7 z), q.val.cell? ⟨w.heap.size, 4, none⟩ = some (.slice kA C.clauses.length kc) := fun q => (HX7.out.below q.prop).cbox.cell rfl
       have c5 : ∀ q : Wl (fun z => Below W7.heap.size W7 z), q.val.cell? ⟨w.heap.size, 5, none⟩ = some (.int .i64 C.days) := fun q => (HX7.out.below q.prop).cbox.cell rfl
       have c6 : ∀ q : Wl (fun z => Below W7.heap.size W7 z), q.val.cell? ⟨w.heap.size, 6, none⟩ = some (.slice oA C.off.length oc) := fun q => (HX7.out.below q.prop).cbox.cell rfl
       haveI : Inhabited (Wl (fun z => Below W7.heap.size W7 z)) := ⟨⟨W7, Below.refl _ _⟩⟩
       refine wp_region_turn (s := (⟨W7, Below.refl _ _⟩ : Wl (fun z => Below W7.heap.size W7 z))) (C1 := fun z => Below W7.heap.size W7 z) (T := AppT W7.heap.size 34 3 fs.length) (f := 9) 15 (fun i => match i with
        | 1 => some (exSpec W7 34 0 #[])
        | 3 => some (rowSpec W7.heap.size 34 3 fs.length (fileRow P))
        | 8 => some (exSpec W7 34 1 #[.int .i64 hon, .slice gA Fn.length gc, .slice qA On.length qc])
        | 9 => some (rowSpec W7.heap.size 34 3 (fs.length + 1) (fileRow P ++ [.int .i64 hon, .slice gA Fn.length gc, .slice qA On.length qc]))
        | 10 => some (joinSpecL C (fs ++ [⟨hon, Fn, On⟩]))
        | 14 => some (newSpec W7 34 #[.int .i64 0, .slice none 0 0, .slice none 0 0])
        | _ => none) (fun i => match i with
        | 3 => [1]
        | 9 => [3, 8]
        | 10 => [9]
        | _ => []) [1, 3, 8, 9] [13] (by simp) (by kernel_rfl) (by kernel_rfl) (by simp) ?pan12 (by kernel_rfl) ?bnd12 ?keeps12 (turns_app _ _ _ _) ?_
       case pan12 =>
        intro e _ o v c a w _ h
        revert h
        cases o.dst <;> exact id
       case bnd12 =>
        intro p hp o t ho ht
        simp only [List.mem_cons, List.not_mem_nil, or_false] at hp
        rcases hp with rfl | rfl | rfl | rfl
        all_goals
         simp only [List.getElem?_toArray, List.getElem?_cons_succ, List.getElem?_cons_zero, Option.some.injEq] at ho
         subst ho
         simp only [Option.some.injEq] at ht
         subst ht
         simp
       case keeps12 =>
        intro i sp h
        split at h
        · injection h with h; subst h; exact exSpec_keepsA (by simp)
        · injection h with h; subst h; exact rowSpec_keepsT (fun _ => Nat.le_refl _)
        · injection h with h; subst h; exact exSpec_keepsA (by simp; omega)
        · injection h with h; subst h; exact rowSpec_keepsT (fun h => absurd rfl h)
        · injection h with h; subst h; exact ⟨joinSpecL_keeps _ _, fun _ h => absurd h (by simp [aftB, Region.binds])⟩
        · injection h with h; subst h; exact newSpec_keepsA (by simp; omega)
        · cases h
       simp only [List.take_succ_cons, List.take_zero, List.drop_succ_cons, List.drop_zero]
       repeat (refine wpT_still rfl (fun K hK => ?_); go_simp; refine hK _ ?_; clear hK K)
       refine wpT_make _ rfl rfl rfl ?_ (fun q _ => ?_) ?_
       · exact ⟨_, W7.heap.size, Nat.le_refl _, rfl⟩
       · go_simp
         refine ⟨⟨_, q.prop.size, rfl⟩, fun b hb => ?_, Below.alloc' (Below.refl _ _) _⟩
         simp only [Value.slice.injEq, Option.some.injEq, Addr.mk.injEq, and_true] at hb
         subst hb
         exact ⟨q.prop.size, heap_alloc_new _ _⟩
       rintro _ ⟨gb, hgb, rfl⟩
       repeat (refine wpT_still rfl (fun K hK => ?_); go_simp; refine hK _ ?_; clear hK K)
       refine wpT_make _ rfl rfl rfl ?_ (fun q hpre => ?_) ?_
       · exact ⟨_, none, 0, rfl⟩
       · have hp := hpre 1 (by simp) (exSpec W7 34 0 #[]) rfl _ _ rfl rfl gb rfl
         exact made_kept (P := Tryz.prog) (z := q.val) _ _ 28 rfl W7.heap.size 34 si (.agg #[.int .i64 0, .slice none 0 0, .slice none 0 0]) 3 56 Tryz.underlying28 hsi hsz hss hsb rfl (by decide) gb 0 #[] rfl hp.2 (by simp) (by unfold maxLen; omega) hp.1 ⟨fb, fo, none⟩ fs.length sc (fileRow P) rfl (by rw [fileRow_len, HPL.out]) (fun j u hj => by rw [Addr.add_lit]; exact HCE.out q.val (Below.step HB7.out q.prop) j u hj) fileRow_one (by unfold maxLen; omega) (by omega) (Nat.zero_add _) rfl
       rintro _ ⟨rA0, rc0, rfl⟩
       repeat (refine wpT_still rfl (fun K hK => ?_); go_simp; refine hK _ ?_; clear hK K)
       refine wpT_make _ rfl rfl rfl ?_ (fun q _ => ?_) ?_
       · exact ⟨_, W7.heap.size, Nat.le_refl _, rfl⟩
       · go_simp
         refine ⟨⟨_, q.prop.size, rfl⟩, fun b hb => ?_, Below.alloc' (Below.refl _ _) _⟩
         simp only [Value.slice.injEq, Option.some.injEq, Addr.mk.injEq, and_true] at hb
         subst hb
         exact ⟨q.prop.size, heap_alloc_new _ _⟩
       rintro _ ⟨gb8, hgb8, rfl⟩
       refine wpT_turn _ rfl rfl rfl ?_ (fun q hpre => ?_) ?_
       · exact ⟨_, none, 0, rfl⟩
       · have hp3 : q.val.ownsRow W7.heap.size 34 3 (.slice rA0 fs.length rc0) fs.length (fileRow P) := hpre 3 (by simp) (rowSpec W7.heap.size 34 3 fs.length (fileRow P)) rfl _ _ rfl rfl
         have hp8 := hpre 8 (by simp) (exSpec W7 34 1 #[.int .i64 hon, .slice gA Fn.length gc, .slice qA On.length qc]) rfl _ _ rfl rfl gb8 rfl
         exact turned_kept (P := Tryz.prog) (z := q.val) _ _ 28 rfl W7.heap.size 34 si (.agg #[.int .i64 0, .slice none 0 0, .slice none 0 0]) 3 56 Tryz.underlying28 hsi hsz hss hsb rfl (by decide) (.slice rA0 fs.length rc0) fs.length (fileRow P) rfl hp3 ⟨gb8, 0, none⟩ 1 1 [.int .i64 hon, .slice gA Fn.length gc, .slice qA On.length qc] rfl rfl (World.news_of_block hp8.2) (by intro u hu; simp only [List.mem_cons, List.not_mem_nil, or_false] at hu; rcases hu with rfl | rfl | rfl <;> rfl) (by unfold maxLen; omega) (by omega) q.prop.size
       rintro _ ⟨rA9, rc9, rfl⟩
       refine wpT_make _ rfl rfl rfl ?_ (fun q hpre => ?_) ?_
       · exact ⟨_, 0, 0, 0, none, 0, 0, none, 0, rfl⟩
       · go_simp
         have hp9 := hpre 9 (by simp) (rowSpec W7.heap.size 34 3 (fs.length + 1) (fileRow P ++ [.int .i64 hon, .slice gA Fn.length gc, .slice qA On.length qc])) rfl _ _ rfl rfl
         have hF := FilesAt.own (P := P ++ [(⟨hon, Fn, On⟩, ⟨⟨gA, gc⟩, ⟨qA, qc⟩⟩)]) (by rw [List.length_append, HPL.out]) (by rw [show fileRow (P ++ [((⟨hon, Fn, On⟩ : KFile), (⟨⟨gA, gc⟩, ⟨qA, qc⟩⟩ : FV))]) = fileRow P ++ [.int .i64 hon, .slice gA Fn.length gc, .slice qA On.length qc] by simp [fileRow, FV.cells]]; exact hp9) (fun p hp => by
          rcases List.mem_append.1 hp with h | h
          · exact (HPF.out p h).below (Below.step HB7.out q.prop)
          · rw [List.mem_singleton.1 h]; exact (HPF.out _ HPN.out).below (Below.step HB7.out q.prop))
         rw [List.map_append, HP.out] at hF
         have hm : ∀ g ∈ fs ++ [⟨hon, Fn, On⟩], g ∈ fs := fun g hg => by
          rcases List.mem_append.1 hg with h | h
          · exact h
          · rw [List.mem_singleton.1 h]; exact List.mem_of_getElem? HFN.out
         have h := join_makesL ⟨⟨hA, hc⟩, ⟨uA, uc⟩, ⟨aA, ac⟩, ⟨kA, kc⟩, ⟨oA, oc⟩⟩ C (fs ++ [⟨hon, Fn, On⟩]) q.val rA9 rc9 (fs.length + 1) (by simp) (HX7.out.below q.prop).con hF (by rw [List.length_append, List.length_singleton]; omega) (HG.out _ hm (by rw [List.length_append, List.length_singleton]; omega)).1 (Nat.le_trans (HG.out _ hm (by rw [List.length_append, List.length_singleton]; omega)).2.1 (by omega)) (Nat.le_trans (HG.out _ hm (by rw [List.length_append, List.length_singleton]; omega)).2.2 (by omega))
         simp only [CV.val, CV.cells] at h
         exact h
       rintro _ ⟨ho3, rn, er3, A3, d3, rn', B3, b3, rfl⟩
       repeat (refine wpT_still rfl (fun K hK => ?_); go_simp; refine hK _ ?_; clear hK K)
       refine wpT_make _ rfl rfl rfl ?_ (fun q _ => ?_) ?_
       · exact ⟨_, W7.heap.size, Nat.le_refl _, rfl⟩
       · go_simp
         refine ⟨⟨_, q.prop.size, rfl⟩, fun b hb => ?_, Below.alloc' (Below.refl _ _) _⟩
         simp only [Value.pointer.injEq, Option.some.injEq, Addr.mk.injEq, and_true] at hb
         subst hb
         exact heap_alloc_new _ _
       rintro _ ⟨fb3, hbx', rfl⟩
       repeat (refine wpT_still rfl (fun K hK => ?_); go_simp; refine hK _ ?_; clear hK K)
       refine wpT_nil ?_
       rintro q ⟨⟨⟨⟨⟨⟨-, -⟩, -⟩, -⟩, -⟩, hjn⟩, hbx⟩
       have hbox := hbx fb3 rfl
       obtain ⟨hoX, F3, O3, erX, AX, dX, BX, bX, he, hfa, hj⟩ := hjn
       simp only [Value.tuple.injEq, Value.agg.injEq, List.cons.injEq, Array.mk.injEq, Value.int.injEq, Value.slice.injEq, true_and, and_true] at he
       obtain ⟨⟨rfl, ⟨rfl, rfl, rfl⟩, rfl, rfl, rfl⟩, rfl⟩ := he
       have HJ3 := Lib.hid hj; clear hj
       have hown : Own q.val 34 fb3 [.int .i64 0, .slice none 0 0, .slice none 0 0] := ⟨[], hbox⟩
       have o0 := hown.cell (i := 0) rfl
       have o1 := hown.cell (i := 1) rfl
       have o2 := hown.cell (i := 2) rfl
       have f0 := hown.frozen 0
       have f1 := hown.frozen 1
       have f2 := hown.frozen 2
       have HOWN := Lib.hid hown; clear hown
       gi_wp2
       obtain ⟨W8, HWf⟩ : ∃ Wf, Hid (Wf = ((q.val.setCell ⟨fb3, 0, none⟩ (.int .i64 ho3)).setCell ⟨fb3, 1, none⟩ (.slice A3 F3.length d3)).setCell ⟨fb3, 2, none⟩ (.slice B3 O3.length b3)) := ⟨_, rfl⟩
       rw [← HWf.out]
       obtain ⟨hown, hUf⟩ := stored3Y HOWN.out HWf.out
       have HW : Hid (Below W7.heap.size W7 W8) := q.prop.trans (hUf.below q.prop.size (fun i hi => by omega))
       have HB8 : Hid (Below w.heap.size w W8) := Below.step HB7.out HW.out
       have HX8 := Lib.hid (HX7.out.below HW.out)
       have HY3 : Hid (FiAt W8 fb3 ⟨⟨A3, d3⟩, ⟨B3, b3⟩⟩ ⟨ho3, F3, O3⟩) := ⟨hfa.apart hbox hUf, hown⟩
       have HY1' := Lib.hid (HY1.out.below HW.out)
       clear HY1
       have HY1 := HY1'
       clear HY1'
       have HY2' := Lib.hid (HY2.out.below HW.out)
       clear HY2
       have HY2 := HY2'
       clear HY2'
       clear hfa hbox hUf hown HW HWf HOWN o0 o1 o2 f0 f1 f2 HX7 HB7 c0 c1 c2 c3 c4 c5 c6 hbx' hbx q
       clear x0 x1 x2 this
       have hm12 := join_mem (fun f => List.mem_reverse.symm) HJ1.out HJ2.out
       have hm13 := join_mem (gs := fs ++ [⟨hon, Fn, On⟩]) (fun f => ⟨fun h => List.mem_append.2 (.inl h), fun h => by
        rcases List.mem_append.1 h with h | h
        · exact h
        · rw [List.mem_singleton.1 h]; exact List.mem_of_getElem? HFN.out⟩) HJ1.out HJ3.out
       obtain ⟨rfl, rfl, h12⟩ := hm12
       obtain ⟨rfl, rfl, h13⟩ := hm13
       have H12 := Lib.hid h12
       have H13 := Lib.hid h13
       clear h12 h13 HJ2
       have q1 : (er1 != er1) = false := by simp
       go_upto_region 15 with (fail)
       have hsc := HF.out.len.1
       simp only at hsc
       have n1 : (n : Int) + 1 ≤ (sc : Int) := by omega
       have n2 : (n : Int) < (fs.length : Int) := by omega
       have n0 : (0 : Int) ≤ (n : Int) + 1 := by omega
       have n3 : (n : Int) + 1 ≤ (fs.length : Int) := by omega
       have hw : IntKind.i64.wrap ((n : Int) + 1) = (n : Int) + 1 := by rw [IntKind.wrap_i64]; omega
       have HTK : Hid (∀ g ∈ fs.take (n + 1), g ∈ fs) := fun g hg => List.mem_of_mem_take hg
       have HDR : Hid (∀ g ∈ fs.drop (n + 1), g ∈ fs) := fun g hg => List.mem_of_mem_drop hg
       have c0 : ∀ q : Bl W8, q.val.cell? ⟨w.heap.size, 0, none⟩ = some (.int .i64 C.parties) := fun q => (HX8.out.below q.prop).cbox.cell rfl
       have c1 : ∀ q : Bl W8, q.val.cell? ⟨w.heap.size, 1, none⟩ = some (.slice hA C.holders.length hc) := fun q => (HX8.out.below q.prop).cbox.cell rfl
       have c2 : ∀ q : Bl W8, q.val.cell? ⟨w.heap.size, 2, none⟩ = some (.slice uA C.units.length uc) := fun q => (HX8.out.below q.prop).cbox.cell rfl
       have c3 : ∀ q : Bl W8, q.val.cell? ⟨w.heap.size, 3, none⟩ = some (.slice aA C.acts.length ac) := fun q => (HX8.out.below q.prop).cbox.cell rfl
       have c4 : ∀ q : Bl W8, q.val.cell? ⟨w.heap.size, 4, none⟩ = some (.slice kA C.clauses.length kc) := fun q => (HX8.out.below q.prop).cbox.cell rfl
       have c5 : ∀ q : Bl W8, q.val.cell? ⟨w.heap.size, 5, none⟩ = some (.int .i64 C.days) := fun q => (HX8.out.below q.prop).cbox.cell rfl
       have c6 : ∀ q : Bl W8, q.val.cell? ⟨w.heap.size, 6, none⟩ = some (.slice oA C.off.length oc) := fun q => (HX8.out.below q.prop).cbox.cell rfl
       refine wp_region_deps (s := (⟨W8, Below.refl _ _⟩ : Bl W8)) 10 (fun i => match i with
        | 5 => some (joinSpecL C (fs.take (n + 1)))
        | 9 => some (newSpec W8 34 #[.int .i64 0, .slice none 0 0, .slice none 0 0])
        | _ => none) (fun _ => []) [] [8] (by simp) (by kernel_rfl) (by kernel_rfl) (by simp) ?pan15 (by kernel_rfl) ?bnd15 ?keeps15 ?_
       case pan15 =>
        intro e _ o v c a w _ h
        revert h
        cases o.dst <;> exact id
       case bnd15 =>
        intro p hp
        cases hp
       case keeps15 =>
        intro i sp h
        split at h
        · injection h with h; subst h; exact joinSpecL_keeps _ _
        · injection h with h; subst h; exact newSpec_keeps _ _ _
        · cases h
       simp only [List.take_succ_cons, List.take_zero, List.drop_succ_cons, List.drop_zero]
       repeat (refine wpE_still rfl (fun K hK => ?_); go_simp; (try (simp only [hw, n0, n1, n3, and_self, if_true, Int.toNat_natCast_add_one]; go_simp)); refine hK _ ?_; clear hK K)
       refine wpE_make _ rfl rfl ?_ (fun q hpre => ?_) ?_
       · exact ⟨_, 0, 0, 0, none, 0, 0, none, 0, rfl⟩
       · go_simp
         have h := join_makesL ⟨⟨hA, hc⟩, ⟨uA, uc⟩, ⟨aA, ac⟩, ⟨kA, kc⟩, ⟨oA, oc⟩⟩ C (fs.take (n + 1)) q.val (some ⟨fb, fo, none⟩) sc (n + 1) (by rw [List.length_take]; omega) (HX8.out.below q.prop).con ((HF.out.take (m := n + 1) (by omega)).below (Below.step HB8.out q.prop)) (by rw [List.length_take]; omega) (HG.out _ HTK.out (by rw [List.length_take]; omega)).1 (Nat.le_trans (HG.out _ HTK.out (by rw [List.length_take]; omega)).2.1 (by omega)) (Nat.le_trans (HG.out _ HTK.out (by rw [List.length_take]; omega)).2.2 (by omega))
         simp only [CV.val, CV.cells] at h
         exact h
       rintro _ ⟨ho4, rn, er4, A4, d4, rn', B4, b4, rfl⟩
       repeat (refine wpE_still rfl (fun K hK => ?_); go_simp; refine hK _ ?_; clear hK K)
       refine wpE_make _ rfl rfl ?_ (fun q _ => ?_) ?_
       · exact ⟨_, W8.heap.size, Nat.le_refl _, rfl⟩
       · go_simp
         refine ⟨⟨_, q.prop.size, rfl⟩, fun b hb => ?_, Below.alloc' (Below.refl _ _) _⟩
         simp only [Value.pointer.injEq, Option.some.injEq, Addr.mk.injEq, and_true] at hb
         subst hb
         exact heap_alloc_new _ _
       rintro _ ⟨fb4, hbx', rfl⟩
       repeat (refine wpE_still rfl (fun K hK => ?_); go_simp; refine hK _ ?_; clear hK K)
       refine wpE_nil ?_
       rintro q ⟨⟨-, hjn⟩, hbx⟩
       have hbox := hbx fb4 rfl
       obtain ⟨hoX, F4, O4, erX, AX, dX, BX, bX, he, hfa, hj⟩ := hjn
       simp only [Value.tuple.injEq, Value.agg.injEq, List.cons.injEq, Array.mk.injEq, Value.int.injEq, Value.slice.injEq, true_and, and_true] at he
       obtain ⟨⟨rfl, ⟨rfl, rfl, rfl⟩, rfl, rfl, rfl⟩, rfl⟩ := he
       have HJ4 := Lib.hid hj; clear hj
       have hown : Own q.val 34 fb4 [.int .i64 0, .slice none 0 0, .slice none 0 0] := ⟨[], hbox⟩
       have o0 := hown.cell (i := 0) rfl
       have o1 := hown.cell (i := 1) rfl
       have o2 := hown.cell (i := 2) rfl
       have f0 := hown.frozen 0
       have f1 := hown.frozen 1
       have f2 := hown.frozen 2
       have HOWN := Lib.hid hown; clear hown
       gi_wp2
       obtain ⟨W9, HWf⟩ : ∃ Wf, Hid (Wf = ((q.val.setCell ⟨fb4, 0, none⟩ (.int .i64 ho4)).setCell ⟨fb4, 1, none⟩ (.slice A4 F4.length d4)).setCell ⟨fb4, 2, none⟩ (.slice B4 O4.length b4)) := ⟨_, rfl⟩
       rw [← HWf.out]
       obtain ⟨hown, hUf⟩ := stored3Y HOWN.out HWf.out
       have HW : Hid (Below W8.heap.size W8 W9) := q.prop.trans (hUf.below q.prop.size (fun i hi => by omega))
       have HB9 : Hid (Below w.heap.size w W9) := Below.step HB8.out HW.out
       have HX9 := Lib.hid (HX8.out.below HW.out)
       have HY4 : Hid (FiAt W9 fb4 ⟨⟨A4, d4⟩, ⟨B4, b4⟩⟩ ⟨ho4, F4, O4⟩) := ⟨hfa.apart hbox hUf, hown⟩
       have HY1' := Lib.hid (HY1.out.below HW.out)
       clear HY1
       have HY1 := HY1'
       clear HY1'
       have HY2' := Lib.hid (HY2.out.below HW.out)
       clear HY2
       have HY2 := HY2'
       clear HY2'
       have HY3' := Lib.hid (HY3.out.below HW.out)
       clear HY3
       have HY3 := HY3'
       clear HY3'
       clear hfa hbox hUf hown HW HWf HOWN o0 o1 o2 f0 f1 f2 HX8 HB8 c0 c1 c2 c3 c4 c5 c6 hbx' hbx q
       by_cases he4 : er4 = 0
       case neg =>
        have q2 : (er4 != 0) = true := by simpa using he4
        have h1 := join_part (gs := fs.take (n + 1)) (fs := fs) (fun h => by have := congrArg List.length h; rw [List.length_take, List.length_nil] at this; omega) HTK.out HJ1.out HJ4.out he4
        have q3 : (er1 != 0) = true := by simpa using h1
        clear h1 he4
        go_wp2
        go_ret
        exact ⟨rfl, HB9.out⟩
       case pos =>
        subst he4
        have HM4 : Hid (AllOk C (fs.take (n + 1)) ∧ Fine (factsOf (fs.take (n + 1))) (ordersOf (fs.take (n + 1))) F4 O4 ∧ ∃ f0, (fs.take (n + 1))[0]? = some f0 ∧ ho4 = f0.house) := HJ4.out.fine
        have HS4 : Hid (F4.length ≤ 1400 ∧ O4.length ≤ 1400 ∧ ∀ x ∈ F4, In64 x.ref) := by
         have h1 := HJ4.out.size
         have h2 := HG.out _ HTK.out (by rw [List.length_take]; omega)
         exact ⟨Nat.le_trans h1.1 h2.2.1, Nat.le_trans h1.2.1 h2.2.2, h1.2.2 h2.1⟩
        have HOK4 : Hid (okFile C ⟨ho4, F4, O4⟩ = true) := by
         obtain ⟨ha, hf, f0, h0, e⟩ := HM4.out
         rw [e]
         exact okFile_join ha h0 hf (Nat.le_trans HS4.out.1 (by omega)) (Nat.le_trans HS4.out.2.1 (by omega))
        obtain ⟨ad, HAD, HAC⟩ : ∃ ad : Addr, Hid ((if sc = n + 1 then some ⟨fb, fo, none⟩ else some ⟨fb, fo + (n + 1) * 3, none⟩) = some ad) ∧ Hid (∀ Wz, Below w.heap.size w Wz → ∀ (j : Nat) (u : Value), (fileRow (P.drop (n + 1)))[j]? = some u → Wz.cell? (ad.add j) = some u) := by
         by_cases hsn : sc = n + 1
         · refine ⟨_, if_pos hsn, fun Wz hz j u hj => ?_⟩
           rw [List.drop_eq_nil_of_le (by rw [HPL.out]; omega)] at hj
           simp [fileRow] at hj
         · refine ⟨_, if_neg hsn, fun Wz hz j u hj => ?_⟩
           rw [Addr.add_lit, Nat.add_assoc]
           exact HCE.out Wz hz _ u (by rw [← fileRow_drop]; exact hj)
        go_upto_region 18 with (fail)
        have c0 : ∀ q : Bl W9, q.val.cell? ⟨w.heap.size, 0, none⟩ = some (.int .i64 C.parties) := fun q => (HX9.out.below q.prop).cbox.cell rfl
        have c1 : ∀ q : Bl W9, q.val.cell? ⟨w.heap.size, 1, none⟩ = some (.slice hA C.holders.length hc) := fun q => (HX9.out.below q.prop).cbox.cell rfl
        have c2 : ∀ q : Bl W9, q.val.cell? ⟨w.heap.size, 2, none⟩ = some (.slice uA C.units.length uc) := fun q => (HX9.out.below q.prop).cbox.cell rfl
        have c3 : ∀ q : Bl W9, q.val.cell? ⟨w.heap.size, 3, none⟩ = some (.slice aA C.acts.length ac) := fun q => (HX9.out.below q.prop).cbox.cell rfl
        have c4 : ∀ q : Bl W9, q.val.cell? ⟨w.heap.size, 4, none⟩ = some (.slice kA C.clauses.length kc) := fun q => (HX9.out.below q.prop).cbox.cell rfl
        have c5 : ∀ q : Bl W9, q.val.cell? ⟨w.heap.size, 5, none⟩ = some (.int .i64 C.days) := fun q => (HX9.out.below q.prop).cbox.cell rfl
        have c6 : ∀ q : Bl W9, q.val.cell? ⟨w.heap.size, 6, none⟩ = some (.slice oA C.off.length oc) := fun q => (HX9.out.below q.prop).cbox.cell rfl
        have y0 : ∀ q : Bl W9, q.val.cell? ⟨fb4, 0, none⟩ = some (.int .i64 ho4) := fun q => (HY4.out.below q.prop).fbox.cell rfl
        have y1 : ∀ q : Bl W9, q.val.cell? ⟨fb4, 1, none⟩ = some (.slice A4 F4.length d4) := fun q => (HY4.out.below q.prop).fbox.cell rfl
        have y2 : ∀ q : Bl W9, q.val.cell? ⟨fb4, 2, none⟩ = some (.slice B4 O4.length b4) := fun q => (HY4.out.below q.prop).fbox.cell rfl
        refine wp_region_deps (s := (⟨W9, Below.refl _ _⟩ : Bl W9)) 13 (fun i => match i with
         | 2 => some (exSpec W9 34 1 #[.int .i64 ho4, .slice A4 F4.length d4, .slice B4 O4.length b4])
         | 7 => some (rowSpec W9.heap.size 34 3 (1 + (fs.length - (n + 1))) ([.int .i64 ho4, .slice A4 F4.length d4, .slice B4 O4.length b4] ++ fileRow (P.drop (n + 1))))
         | 8 => some (joinSpecL C (⟨ho4, F4, O4⟩ :: fs.drop (n + 1)))
         | 12 => some (newSpec W9 34 #[.int .i64 0, .slice none 0 0, .slice none 0 0])
         | _ => none) (fun i => match i with
         | 7 => [2]
         | 8 => [7]
         | _ => []) [2, 7] [11] (by simp) (by kernel_rfl) (by kernel_rfl) (by simp) ?pan18 (by kernel_rfl) ?bnd18 ?keeps18 ?_
        case pan18 =>
         intro e _ o v c a w _ h
         revert h
         cases o.dst <;> exact id
        case bnd18 =>
         intro p hp o t ho ht
         simp only [List.mem_cons, List.not_mem_nil, or_false] at hp
         rcases hp with rfl | rfl
         all_goals
          simp only [List.getElem?_toArray, List.getElem?_cons_succ, List.getElem?_cons_zero, Option.some.injEq] at ho
          subst ho
          simp only [Option.some.injEq] at ht
          subst ht
          simp
        case keeps18 =>
         intro i sp h
         split at h
         · injection h with h; subst h; exact exSpec_keeps _ _ _ _
         · injection h with h; subst h; exact rowSpec_keeps _ _ _ _ _
         · injection h with h; subst h; exact joinSpecL_keeps _ _
         · injection h with h; subst h; exact newSpec_keeps _ _ _
         · cases h
        simp only [List.take_succ_cons, List.take_zero, List.drop_succ_cons, List.drop_zero]
        repeat (refine wpE_still rfl (fun K hK => ?_); go_simp; refine hK _ ?_; clear hK K)
        refine wpE_make _ rfl rfl ?_ (fun q _ => ?_) ?_
        · exact ⟨_, W9.heap.size, Nat.le_refl _, rfl⟩
        · go_simp
          refine ⟨⟨_, q.prop.size, rfl⟩, fun b hb => ?_, Below.alloc' (Below.refl _ _) _⟩
          simp only [Value.slice.injEq, Option.some.injEq, Addr.mk.injEq, and_true] at hb
          subst hb
          exact ⟨q.prop.size, heap_alloc_new _ _⟩
        rintro _ ⟨gb, hgb, rfl⟩
        iterate 3 (refine wpE_still rfl (fun K hK => ?_); go_simp; (try (simp only [hw, n0, n1, n3, and_self, if_true, Int.toNat_natCast_add_one]; go_simp)); refine hK _ ?_; clear hK K)
        refine wpE_still rfl (fun K hK => ?_)
        refine ⟨.slice (some ad) (fs.length - (n + 1)) (sc - (n + 1)), fun z => ?_, ?_⟩
        · rw [← HAD.out]
          by_cases hsn : sc = n + 1
          · go_simp
          · go_simp
        go_simp
        refine hK _ ?_
        clear hK K
        refine wpE_make _ rfl rfl ?_ (fun q hpre => ?_) ?_
        · exact ⟨_, none, 0, rfl⟩
        · have hp := hpre 2 (by simp) (exSpec W9 34 1 #[.int .i64 ho4, .slice A4 F4.length d4, .slice B4 O4.length b4]) rfl _ _ rfl rfl gb rfl
          exact made_kept (P := Tryz.prog) (z := q.val) _ _ 28 rfl W9.heap.size 34 si (.agg #[.int .i64 0, .slice none 0 0, .slice none 0 0]) 3 56 Tryz.underlying28 hsi hsz hss hsb rfl (by decide) gb 1 #[.int .i64 ho4, .slice A4 F4.length d4, .slice B4 O4.length b4] rfl hp.2 rfl (by unfold maxLen; omega) hp.1 ad (fs.length - (n + 1)) (sc - (n + 1)) (fileRow (P.drop (n + 1))) rfl (by rw [fileRow_len, List.length_drop, HPL.out]) (HAC.out q.val (Below.step HB9.out q.prop)) fileRow_one (by unfold maxLen; omega) (by omega) rfl rfl
        rintro _ ⟨rA7, rc7, rfl⟩
        refine wpE_make _ rfl rfl ?_ (fun q hpre => ?_) ?_
        · exact ⟨_, 0, 0, 0, none, 0, 0, none, 0, rfl⟩
        · go_simp
          have hp7 := hpre 7 (by simp) (rowSpec W9.heap.size 34 3 (1 + (fs.length - (n + 1))) ([.int .i64 ho4, .slice A4 F4.length d4, .slice B4 O4.length b4] ++ fileRow (P.drop (n + 1)))) rfl _ _ rfl rfl
          have hF := FilesAt.own (P := (⟨ho4, F4, O4⟩, ⟨⟨A4, d4⟩, ⟨B4, b4⟩⟩) :: P.drop (n + 1)) (by rw [List.length_cons, List.length_drop, HPL.out, Nat.add_comm]) hp7 (fun p hp => by
           rcases List.mem_cons.1 hp with h | h
           · rw [h]; exact HY4.out.file.below q.prop
           · exact (HPF.out p (List.mem_of_mem_drop h)).below (Below.step HB9.out q.prop))
          rw [List.map_cons, List.map_drop, HP.out] at hF
          have hd := HG.out _ HDR.out (by rw [List.length_drop]; omega)
          have ef : factsOf (⟨ho4, F4, O4⟩ :: fs.drop (n + 1)) = F4 ++ factsOf (fs.drop (n + 1)) := by simp [factsOf]
          have eo : ordersOf (⟨ho4, F4, O4⟩ :: fs.drop (n + 1)) = O4 ++ ordersOf (fs.drop (n + 1)) := by simp [ordersOf]
          have hs4 := HS4.out
          have hf1 : ∀ x ∈ factsOf (⟨ho4, F4, O4⟩ :: fs.drop (n + 1)), In64 x.ref := fun x hx => by
           rw [ef] at hx
           rcases List.mem_append.1 hx with h | h
           · exact hs4.2.2 x h
           · exact hd.1 x h
          have hf2 : (factsOf (⟨ho4, F4, O4⟩ :: fs.drop (n + 1))).length ≤ 4000 := by rw [ef, List.length_append]; omega
          have hf3 : (ordersOf (⟨ho4, F4, O4⟩ :: fs.drop (n + 1))).length ≤ 4000 := by rw [eo, List.length_append]; omega
          have h := join_makesL ⟨⟨hA, hc⟩, ⟨uA, uc⟩, ⟨aA, ac⟩, ⟨kA, kc⟩, ⟨oA, oc⟩⟩ C (⟨ho4, F4, O4⟩ :: fs.drop (n + 1)) q.val rA7 rc7 (1 + (fs.length - (n + 1))) (by rw [List.length_cons, List.length_drop]; omega) (HX9.out.below q.prop).con hF (by rw [List.length_cons, List.length_drop]; omega) hf1 hf2 hf3
          simp only [CV.val, CV.cells] at h
          exact h
        rintro _ ⟨ho5, rn, er5, A5, d5, rn', B5, b5, rfl⟩
        repeat (refine wpE_still rfl (fun K hK => ?_); go_simp; refine hK _ ?_; clear hK K)
        refine wpE_make _ rfl rfl ?_ (fun q _ => ?_) ?_
        · exact ⟨_, W9.heap.size, Nat.le_refl _, rfl⟩
        · go_simp
          refine ⟨⟨_, q.prop.size, rfl⟩, fun b hb => ?_, Below.alloc' (Below.refl _ _) _⟩
          simp only [Value.pointer.injEq, Option.some.injEq, Addr.mk.injEq, and_true] at hb
          subst hb
          exact heap_alloc_new _ _
        rintro _ ⟨fb5, hbx', rfl⟩
        repeat (refine wpE_still rfl (fun K hK => ?_); go_simp; refine hK _ ?_; clear hK K)
        refine wpE_nil ?_
        rintro q ⟨⟨⟨⟨-, -⟩, -⟩, hjn⟩, hbx⟩
        have hbox := hbx fb5 rfl
        obtain ⟨hoX, F5, O5, erX, AX, dX, BX, bX, he, hfa, hj⟩ := hjn
        simp only [Value.tuple.injEq, Value.agg.injEq, List.cons.injEq, Array.mk.injEq, Value.int.injEq, Value.slice.injEq, true_and, and_true] at he
        obtain ⟨⟨rfl, ⟨rfl, rfl, rfl⟩, rfl, rfl, rfl⟩, rfl⟩ := he
        have HJ5 := Lib.hid hj; clear hj
        have hown : Own q.val 34 fb5 [.int .i64 0, .slice none 0 0, .slice none 0 0] := ⟨[], hbox⟩
        have o0 := hown.cell (i := 0) rfl
        have o1 := hown.cell (i := 1) rfl
        have o2 := hown.cell (i := 2) rfl
        have f0 := hown.frozen 0
        have f1 := hown.frozen 1
        have f2 := hown.frozen 2
        have HOWN := Lib.hid hown; clear hown
        gi_wp2
        obtain ⟨W10, HWf⟩ : ∃ Wf, Hid (Wf = ((q.val.setCell ⟨fb5, 0, none⟩ (.int .i64 ho5)).setCell ⟨fb5, 1, none⟩ (.slice A5 F5.length d5)).setCell ⟨fb5, 2, none⟩ (.slice B5 O5.length b5)) := ⟨_, rfl⟩
        rw [← HWf.out]
        obtain ⟨hown, hUf⟩ := stored3Y HOWN.out HWf.out
        have HW : Hid (Below W9.heap.size W9 W10) := q.prop.trans (hUf.below q.prop.size (fun i hi => by omega))
        have HB10 : Hid (Below w.heap.size w W10) := Below.step HB9.out HW.out
        have HX10 := Lib.hid (HX9.out.below HW.out)
        have HY5 : Hid (FiAt W10 fb5 ⟨⟨A5, d5⟩, ⟨B5, b5⟩⟩ ⟨ho5, F5, O5⟩) := ⟨hfa.apart hbox hUf, hown⟩
        have HY1' := Lib.hid (HY1.out.below HW.out)
        clear HY1
        have HY1 := HY1'
        clear HY1'
        have HY2' := Lib.hid (HY2.out.below HW.out)
        clear HY2
        have HY2 := HY2'
        clear HY2'
        have HY3' := Lib.hid (HY3.out.below HW.out)
        clear HY3
        have HY3 := HY3'
        clear HY3'
        have HY4' := Lib.hid (HY4.out.below HW.out)
        clear HY4
        have HY4 := HY4'
        clear HY4'
        clear hfa hbox hUf hown HW HWf HOWN o0 o1 o2 f0 f1 f2 HX9 HB9 c0 c1 c2 c3 c4 c5 c6 hbx' hbx q
        clear y0 y1 y2
        have hst := join_steps (A := fs.take (n + 1)) (B := fs.drop (n + 1)) (f1 := ⟨ho4, F4, O4⟩) HOK4.out HM4.out.1 HM4.out.2.1 (by rw [List.take_append_drop]; exact HJ1.out) HJ5.out
        obtain ⟨rfl, rfl, h15⟩ := hst
        have H15 := Lib.hid h15; clear h15
        by_cases he1 : er1 = 0
        case neg =>
         have q2 : (er1 != 0) = true := by simpa using he1
         obtain rfl := HJ1.out.none he1
         obtain ⟨p0, p1, p2⟩ := HY1.out.cells
         obtain ⟨p3, p4, p5⟩ := HY2.out.cells
         obtain ⟨p6, p7, p8⟩ := HY3.out.cells
         obtain ⟨p9, p10, p11⟩ := HY5.out.cells
         simp only [List.length_nil] at p0 p1 p2 p3 p4 p5 p6 p7 p8 p9 p10 p11
         clear he1
         go_wp2
         go_ret
         exact ⟨rfl, HB10.out⟩
        case pos =>
         subst he1
         obtain ⟨ha1, hf1, f0, h0, e1⟩ := HJ1.out.fine
         have e3 : ho1 = ho3 := by
          obtain ⟨_, _, g0, hg, e⟩ := HJ3.out.fine
          rw [List.getElem?_append_left hpos, h0] at hg
          cases hg
          rw [e1, e]
         have e4 : ho1 = ho4 := by
          obtain ⟨_, _, g0, hg, e⟩ := HM4.out
          rw [List.getElem?_take, if_pos (by omega), h0] at hg
          cases hg
          rw [e1, e]
         have e5 : ho4 = ho5 := by
          obtain ⟨_, _, g0, hg, e⟩ := HJ5.out.fine
          rw [List.getElem?_cons_zero] at hg
          cases hg
          rw [e]
         subst e3
         subst e5
         subst e4
         have e6 := H12.out rfl
         have e7 := H13.out rfl
         have e8 := H15.out rfl
         subst e6
         subst e7
         subst e8
         have hsz := HJ1.out.size
         have hok1 : okFile C ⟨ho1, F1, O1⟩ = true := by
          rw [e1]
          exact okFile_join ha1 h0 hf1 (Nat.le_trans hsz.1 HSF.out.1) (Nat.le_trans hsz.2.1 HSF.out.2)
         have HOK1 := Lib.hid hok1
         have HFI := Lib.hid hf1
         have HSZ : Hid (F1.length ≤ 4000 ∧ O1.length ≤ 4000 ∧ ∀ x ∈ F1, In64 x.ref) := ⟨Nat.le_trans hsz.1 HSF.out.1, Nat.le_trans hsz.2.1 HSF.out.2, hsz.2.2 HRA.out⟩
         have HZ0 : Hid ((fileRow P)[0]? = some (.int .i64 ho1)) := by
          show _ = _
          obtain ⟨⟨g, tg⟩, hg⟩ : ∃ p, P[0]? = some p := ⟨_, List.getElem?_eq_getElem (by rw [HPL.out]; omega)⟩
          have h1 : fs[0]? = some g := by rw [← HP.out, List.getElem?_map, hg]; rfl
          rw [h0] at h1
          cases h1
          have h2 := get_flat (fun p : KFile × FV => FV.cells p.2 p.1) 3 (fun _ => rfl) P 0 0 _ hg (by omega)
          rw [e1]
          exact h2
         clear ha1 hf1 h0 e1 hsz hok1 HJ3 HJ5 HM4 H12 H13 H15 HOK4 HS4 HY4
         obtain ⟨p0, p1, p2⟩ := HY1.out.cells
         simp only at p0 p1 p2
         obtain ⟨c0, c1, c2, c3, c4, c5, c6⟩ := HX10.out.cells
         simp only at c0 c1 c2 c3 c4 c5 c6
         have hj := join_any ⟨⟨hA, hc⟩, ⟨uA, uc⟩, ⟨aA, ac⟩, ⟨kA, kc⟩, ⟨oA, oc⟩⟩ C ⟨some ⟨W10.heap.size, 0, none⟩, 1⟩ [⟨ho1, F1, O1⟩] (W10.alloc (.cells #[.int .i64 ho1, .slice A1 F1.length d1, .slice B1 O1.length b1] 34)) (HX10.out.below (Below.alloc' (Below.refl _ _) _)).con (one_row HY1.out.file) (by simp) (by have h := HSZ.out.2.2; simpa [factsOf] using h) (by have h := HSZ.out.1; simpa [factsOf] using h) (by have h := HSZ.out.2.1; simpa [ordersOf] using h)
         simp only [CV.val, CV.cells, List.length_cons, List.length_nil, Nat.zero_add] at hj
         have HJ := Lib.hid hj; clear hj
         go_wp2_with (go_at_call 11; refine HJ.out.mono ?_; rintro _ W11 ⟨ho6, F6, O6, er6, A6, d6, B6, b6, rfl, hf, _, hb, hj⟩; refine Hid.out ?_)
         refine Lib.hid ?_
         obtain ⟨e1, e2, e3, e4⟩ := join_again HOK1.out HFI.out hj
         replace e2 : ho1 = ho6 := e2.symm
         replace e3 : F1 = F6 := e3.symm
         replace e4 : O1 = O6 := e4.symm
         subst e1
         subst e2
         subst e3
         subst e4
         have hb' := Below.step (Below.alloc' (Below.refl _ W10) _) hb
         have HX11 := Lib.hid (HX10.out.below hb')
         have HB11 : Hid (Below w.heap.size w W11) := Below.step HB10.out hb'
         have HY1' := Lib.hid (HY1.out.below hb')
         clear HY1
         have HY1 := HY1'
         clear HY1'
         have HY2' := Lib.hid (HY2.out.below hb')
         clear HY2
         have HY2 := HY2'
         clear HY2'
         have HY3' := Lib.hid (HY3.out.below hb')
         clear HY3
         have HY3 := HY3'
         clear HY3'
         have HY5' := Lib.hid (HY5.out.below hb')
         clear HY5
         have HY5 := HY5'
         clear HY5'
         clear hb hb' hj HJ HX10 HB10 c0 c1 c2 c3 c4 c5 c6 p0 p1 p2
         go_upto_region 24 with (fail)
         generalize hW12 : World.alloc _ _ = W12
         obtain ⟨hb, hh⟩ := bx1' hW12
         have HX12 := Lib.hid (HX11.out.below hb)
         have HB12 : Hid (Below w.heap.size w W12) := Below.step HB11.out hb
         have HY6 : Hid (FiAt W12 W11.heap.size ⟨⟨A6, d6⟩, ⟨B6, b6⟩⟩ ⟨ho1, F1, O1⟩) := ⟨hf.below hb, ⟨[], by rw [List.append_nil]; exact hh⟩⟩
         have HY1' := Lib.hid (HY1.out.below hb)
         clear HY1
         have HY1 := HY1'
         clear HY1'
         have HY2' := Lib.hid (HY2.out.below hb)
         clear HY2
         have HY2 := HY2'
         clear HY2'
         have HY3' := Lib.hid (HY3.out.below hb)
         clear HY3
         have HY3 := HY3'
         clear HY3'
         have HY5' := Lib.hid (HY5.out.below hb)
         clear HY5
         have HY5 := HY5'
         clear HY5'
         clear hW12 hb hh hf HX11 HB11
         generalize W11.heap.size = jb at HY6 ⊢
         have hv := fun y : Bl W12 => fileValid_any ⟨⟨hA, hc⟩, ⟨uA, uc⟩, ⟨aA, ac⟩, ⟨kA, kc⟩, ⟨oA, oc⟩⟩ C ⟨⟨A1, d1⟩, ⟨B1, b1⟩⟩ ⟨ho1, F1, O1⟩ y.val (HX12.out.below y.prop).con (HY1.out.below y.prop).file
         rw [HOK1.out] at hv
         simp only [CV.val, CV.cells, FV.val, FV.cells] at hv
         have HV := Lib.hid hv
         have hl := fun y : Bl W12 => alike_any ⟨ho1, F1, O1⟩ ⟨ho2, F1, O1⟩ ⟨⟨A1, d1⟩, ⟨B1, b1⟩⟩ ⟨⟨A2, d2⟩, ⟨B2, b2⟩⟩ y.val (HY1.out.below y.prop).file (HY2.out.below y.prop).file
         rw [show sameF (⟨ho1, F1, O1⟩ : KFile) ⟨ho2, F1, O1⟩ = true by simp [sameF]] at hl
         simp only [FV.val, FV.cells] at hl
         have HL := Lib.hid hl
         have hs := fun (y : Bl W12) (A : Option Addr) (c : Nat) (A' : Option Addr) (c' : Nat) (h : FileAt W12 ⟨⟨A, c⟩, ⟨A', c'⟩⟩ ⟨ho1, F1, O1⟩) => fileSame_any ⟨ho1, F1, O1⟩ ⟨ho1, F1, O1⟩ ⟨⟨A1, d1⟩, ⟨B1, b1⟩⟩ ⟨⟨A, c⟩, ⟨A', c'⟩⟩ y.val (HY1.out.below y.prop).file (h.below y.prop)
         rw [show decide ((⟨ho1, F1, O1⟩ : KFile) = ⟨ho1, F1, O1⟩) = true by simp] at hs
         simp only [FV.val, FV.cells] at hs
         have HS := Lib.hid hs
         clear hv hl hs
         have v3 := HY3.out.file
         have v5 := HY5.out.file
         have v6 := HY6.out.file
         have c0 : ∀ q : Bl W12, q.val.cell? ⟨w.heap.size, 0, none⟩ = some (.int .i64 C.parties) := fun q => (HX12.out.below q.prop).cbox.cell rfl
         have c1 : ∀ q : Bl W12, q.val.cell? ⟨w.heap.size, 1, none⟩ = some (.slice hA C.holders.length hc) := fun q => (HX12.out.below q.prop).cbox.cell rfl
         have c2 : ∀ q : Bl W12, q.val.cell? ⟨w.heap.size, 2, none⟩ = some (.slice uA C.units.length uc) := fun q => (HX12.out.below q.prop).cbox.cell rfl
         have c3 : ∀ q : Bl W12, q.val.cell? ⟨w.heap.size, 3, none⟩ = some (.slice aA C.acts.length ac) := fun q => (HX12.out.below q.prop).cbox.cell rfl
         have c4 : ∀ q : Bl W12, q.val.cell? ⟨w.heap.size, 4, none⟩ = some (.slice kA C.clauses.length kc) := fun q => (HX12.out.below q.prop).cbox.cell rfl
         have c5 : ∀ q : Bl W12, q.val.cell? ⟨w.heap.size, 5, none⟩ = some (.int .i64 C.days) := fun q => (HX12.out.below q.prop).cbox.cell rfl
         have c6 : ∀ q : Bl W12, q.val.cell? ⟨w.heap.size, 6, none⟩ = some (.slice oA C.off.length oc) := fun q => (HX12.out.below q.prop).cbox.cell rfl
         have p0 : ∀ q : Bl W12, q.val.cell? ⟨ab, 0, none⟩ = some (.int .i64 ho1) := fun q => (HY1.out.below q.prop).fbox.cell rfl
         have p1 : ∀ q : Bl W12, q.val.cell? ⟨ab, 1, none⟩ = some (.slice A1 F1.length d1) := fun q => (HY1.out.below q.prop).fbox.cell rfl
         have p2 : ∀ q : Bl W12, q.val.cell? ⟨ab, 2, none⟩ = some (.slice B1 O1.length b1) := fun q => (HY1.out.below q.prop).fbox.cell rfl
         have r0 : ∀ q : Bl W12, q.val.cell? ⟨bb, 0, none⟩ = some (.int .i64 ho2) := fun q => (HY2.out.below q.prop).fbox.cell rfl
         have r1 : ∀ q : Bl W12, q.val.cell? ⟨bb, 1, none⟩ = some (.slice A2 F1.length d2) := fun q => (HY2.out.below q.prop).fbox.cell rfl
         have r2 : ∀ q : Bl W12, q.val.cell? ⟨bb, 2, none⟩ = some (.slice B2 O1.length b2) := fun q => (HY2.out.below q.prop).fbox.cell rfl
         have s0 : ∀ q : Bl W12, q.val.cell? ⟨fb3, 0, none⟩ = some (.int .i64 ho1) := fun q => (HY3.out.below q.prop).fbox.cell rfl
         have s1 : ∀ q : Bl W12, q.val.cell? ⟨fb3, 1, none⟩ = some (.slice A3 F1.length d3) := fun q => (HY3.out.below q.prop).fbox.cell rfl
         have s2 : ∀ q : Bl W12, q.val.cell? ⟨fb3, 2, none⟩ = some (.slice B3 O1.length b3) := fun q => (HY3.out.below q.prop).fbox.cell rfl
         have t0 : ∀ q : Bl W12, q.val.cell? ⟨fb5, 0, none⟩ = some (.int .i64 ho1) := fun q => (HY5.out.below q.prop).fbox.cell rfl
         have t1 : ∀ q : Bl W12, q.val.cell? ⟨fb5, 1, none⟩ = some (.slice A5 F1.length d5) := fun q => (HY5.out.below q.prop).fbox.cell rfl
         have t2 : ∀ q : Bl W12, q.val.cell? ⟨fb5, 2, none⟩ = some (.slice B5 O1.length b5) := fun q => (HY5.out.below q.prop).fbox.cell rfl
         have u0 : ∀ q : Bl W12, q.val.cell? ⟨jb, 0, none⟩ = some (.int .i64 ho1) := fun q => (HY6.out.below q.prop).fbox.cell rfl
         have u1 : ∀ q : Bl W12, q.val.cell? ⟨jb, 1, none⟩ = some (.slice A6 F1.length d6) := fun q => (HY6.out.below q.prop).fbox.cell rfl
         have u2 : ∀ q : Bl W12, q.val.cell? ⟨jb, 2, none⟩ = some (.slice B6 O1.length b6) := fun q => (HY6.out.below q.prop).fbox.cell rfl
         have z0 : ∀ q : Bl W12, q.val.cell? ⟨fb, fo, none⟩ = some (.int .i64 ho1) := fun q => HCE.out q.val (Below.step HB12.out q.prop) 0 _ HZ0.out
         have l0 : (0 : Int) < (fs.length : Int) := by omega
         change Code.wp _ _ _ _ (Bl.val (⟨W12, Below.refl _ _⟩ : Bl W12))
         generalize (⟨W12, Below.refl _ _⟩ : Bl W12) = za
         refine wp_region_bl (by kernel_rfl) (by kernel_rfl) ?_
         repeat (go_big_quiet_step (first | (go_at_call 12; exact Calls.bl_of (HV.out _)) | (go_at_call 13; exact Calls.bl_of (HL.out _)) | (go_at_call 14; exact Calls.bl_of (HS.out _ _ _ _ _ (by first | exact v3 | exact v5 | exact v6)))))
         refine wpQuiet_nil ?_
         rintro _ ⟨zb, rfl⟩
         have HBE : Hid (Below w.heap.size w zb.val) := Below.step HB12.out zb.prop
         go_wp2
         go_ret
         exact ⟨rfl, HBE.out⟩
theorem joins_walk (v : CV) (C : KCon) (sv : SV) (fs : List KFile) (a : Int) (w : World) (hC : ConAt w v C) (hF : FilesAt w sv fs) (hR : ∀ f ∈ fs, ∀ x ∈ f.facts, In64 x.ref) (hw : (Lit.int .u8 a).wf = true) (hT : Tab w) :
 Calls Tryz.prog 3 #[v.val C, .slice sv.A fs.length sv.c, .int .u8 a] w (RetB (.bool true) w) := by
 have e0 : IntKind.u8.min = 0 := by decide
 have e1 : IntKind.u8.max = 255 := by decide
 simp only [Lit.wf, Bool.and_eq_true, decide_eq_true_eq, e0, e1] at hw
 obtain ⟨n, rfl⟩ : ∃ n : Nat, a = n := ⟨a.toNat, by omega⟩
 exact joins_walkN v C sv fs n w hC hF hR hT (by omega)
end Go.Proofs.YtahhdjeclbagnaaGreatDoor
