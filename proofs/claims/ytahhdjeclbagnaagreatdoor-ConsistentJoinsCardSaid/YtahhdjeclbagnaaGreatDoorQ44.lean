/-
  CuH; CuP; CuQ
-/
import Derived.Test.YtahhdjeclbagnaaGreatDoorQ43
namespace Go.Proofs.YtahhdjeclbagnaaGreatDoor
open Go.RowKit Go.Shelf
def ExLit (w : World) (e : Ending) (w' : World) : Prop :=
 ∃ (hA : Option Addr) (hc : Nat) (uA : Option Addr) (uc : Nat) (aA : Option Addr) (ac : Nat) (kA : Option Addr) (kc : Nat) (oA : Option Addr) (oc : Nat), e = .returned (.agg #[.int .i64 2, .slice hA 2 hc, .slice uA 0 uc, .slice aA 2 ac, .slice kA 0 kc, .int .i64 3, .slice oA 0 oc]) ∧ ConAt w' ⟨⟨hA, hc⟩, ⟨uA, uc⟩, ⟨aA, ac⟩, ⟨kA, kc⟩, ⟨oA, oc⟩⟩ exC ∧ Below w.heap.size w w'
theorem example_lit (w : World) : Calls Tryz.prog 24 #[] w (ExLit w) := (example_any w).mono fun _ _ h => h
set_option maxRecDepth 100000 in
set_option maxHeartbeats 4000000 in
theorem head_any (w : World) (hT : Tab w) : Calls Tryz.prog 9 #[] w (RetB (.bool true) w) := by
 have HT := Lib.hid hT; clear hT
 go_enter Tryz.func9, Tryz.ntmps9
 go_wp2_with (go_at_call 24; refine (example_lit _).mono ?_; rintro e z ⟨hA, hc, uA, uc, aA, ac, kA, kc, oA, oc, rfl, hcon, hb⟩; refine Hid.out ?_)
 refine Lib.hid ?_
 have HCON := Lib.hid hcon
 have HBz := Lib.hid hb
 clear hcon hb
 go_upto_region 5 with (fail)
 generalize hW0 : World.alloc _ _ = W0
 obtain ⟨HBx, h0, h1, h2, h3, h4, h5⟩ := bx6 hW0
 have HX0 : Hid (ExAt W0 z.heap.size (z.heap.size + 1 + 1 + 1 + 1 + 1) ⟨⟨hA, hc⟩, ⟨uA, uc⟩, ⟨aA, ac⟩, ⟨kA, kc⟩, ⟨oA, oc⟩⟩ ⟨⟨some ⟨z.heap.size + 1 + 1 + 1, 0, none⟩, 2⟩, ⟨some ⟨z.heap.size + 1 + 1 + 1 + 1, 0, none⟩, 1⟩⟩) :=
  ⟨HCON.out.below HBx.out, ⟨at_row h3 rfl (by decide) (by unfold maxLen; decide), at_row h4 rfl (by decide) (by unfold maxLen; decide)⟩, ⟨[], by rw [List.append_nil]; exact h0⟩, ⟨[], by rw [List.append_nil]; exact h5⟩⟩
 have HB0 : Hid (Below w.heap.size w W0) := Below.step HBz.out HBx.out
 clear hW0 h0 h1 h2 h3 h4 h5 HCON HBz HBx
 generalize (some ⟨z.heap.size + 1 + 1 + 1, 0, none⟩ : Option Addr) = fA at *
 generalize (some ⟨z.heap.size + 1 + 1 + 1 + 1, 0, none⟩ : Option Addr) = pA at *
 generalize z.heap.size + 1 + 1 + 1 + 1 + 1 = fb at *
 generalize z.heap.size + 1 + 1 = w2
 generalize z.heap.size + 1 = w1
 generalize z.heap.size = cb at *
 clear z
 obtain ⟨c0, c1, c2, c3, c4, c5, c6, f0, f1, f2⟩ := HX0.out.cells
 simp only at c0 c1 c2 c3 c4 c5 c6 f0 f1 f2
 have hco : Calls Tryz.prog 16 #[.agg #[.int .i64 2, .slice hA 2 hc, .slice uA 0 uc, .slice aA 2 ac, .slice kA 0 kc, .int .i64 3, .slice oA 0 oc], .agg #[.int .i64 0, .slice fA 2 2, .slice pA 1 1], .int .i64 1] W0 (ComplPost exC exF 1 W0) := completions_any ⟨⟨hA, hc⟩, ⟨uA, uc⟩, ⟨aA, ac⟩, ⟨kA, kc⟩, ⟨oA, oc⟩⟩ exC ⟨⟨fA, 2⟩, ⟨pA, 1⟩⟩ exF 1 W0 HX0.out.con HX0.out.file (by decide) (HT.out.below HB0.out)
 have HCO := Lib.hid hco; clear hco
 go_wp2_with (go_at_call 16; refine HCO.out.mono ?_; rintro e W1 ⟨L, er, A1, d1, rfl, hN, hb1, hc1⟩; obtain ⟨rfl, rfl⟩ := exCompl hc1; refine Hid.out ?_)
 refine Lib.hid ?_
 have HX1 := Lib.hid (HX0.out.below hb1)
 have HB1 : Hid (Below w.heap.size w W1) := Below.step HB0.out hb1
 have HN1 := Lib.hid hN
 clear hb1 hN hc1 HCO c0 c1 c2 c3 c4 c5 c6 f0 f1 f2 HX0 HB0
 obtain ⟨c0, c1, c2, c3, c4, c5, c6, f0, f1, f2⟩ := HX1.out.cells
 simp only at c0 c1 c2 c3 c4 c5 c6 f0 f1 f2
 have hj2 := exJoinC HX1.out 1 ⟨2, 1, 0, 0, 0, false⟩ (by decide)
 simp only [KFact.cells] at hj2
 have HJ2 := Lib.hid hj2; clear hj2
 go_wp2_with (go_at_call 11; refine HJ2.out.mono ?_; rintro e V2 ⟨ho2, F2, O2, er2, A2, d2, B2, b2, rfl, hf2, hb2, hr2⟩; obtain ⟨rfl, rfl⟩ := exJoin (f := ⟨1, [⟨2, 1, 0, 0, 0, false⟩], []⟩) (by decide +kernel) rfl exFine2 hr2; refine Hid.out ?_)
 refine Lib.hid ?_
 have HY2 := Lib.hid (HX1.out.below hb2)
 have HBV2 : Hid (Below w.heap.size w V2) := Below.step HB1.out hb2
 have HNv2 := Lib.hid (HN1.out.below hb2)
 have HA2 := Lib.hid hf2
 clear hf2 hb2 hr2 HJ2 c0 c1 c2 c3 c4 c5 c6 f0 f1 f2
 go_upto_region 7 with (fail)
 generalize hW2 : World.alloc _ _ = W2
 obtain ⟨hbx2, hx2⟩ := bx1' hW2
 have HX2 := Lib.hid (HY2.out.below hbx2)
 have HB2 : Hid (Below w.heap.size w W2) := Below.step HBV2.out hbx2
 have HN2 := Lib.hid (HNv2.out.below hbx2)
 have HaO2 : Hid (Own W2 34 V2.heap.size [.int .i64 ho2, .slice A2 2 d2, .slice B2 O2.length b2]) := ⟨[], by rw [List.append_nil]; exact hx2⟩
 have HaF2 := Lib.hid (HA2.out.below (by omega) hbx2)
 clear hW2 hbx2 hx2
 generalize V2.heap.size = q2 at *
 obtain ⟨c0, c1, c2, c3, c4, c5, c6, f0, f1, f2⟩ := HX2.out.cells
 simp only at c0 c1 c2 c3 c4 c5 c6 f0 f1 f2
 have hj3 := exJoinC HX2.out 1 ⟨1, 0, 1, 1, 0, false⟩ (by decide)
 simp only [KFact.cells] at hj3
 have HJ3 := Lib.hid hj3; clear hj3
 go_wp2_with (go_at_call 11; refine HJ3.out.mono ?_; rintro e V3 ⟨ho3, F3, O3, er3, A3, d3, B3, b3, rfl, hf3, hb3, hr3⟩; obtain ⟨rfl, rfl⟩ := exJoin (f := ⟨1, [⟨1, 0, 1, 1, 0, false⟩], []⟩) (by decide +kernel) rfl exFine3 hr3; refine Hid.out ?_)
 refine Lib.hid ?_
 have HY3 := Lib.hid (HX2.out.below hb3)
 have HBV3 : Hid (Below w.heap.size w V3) := Below.step HB2.out hb3
 have HNv3 := Lib.hid (HN2.out.below hb3)
 have HaOv3 := Lib.hid (HaO2.out.below hb3)
 have HaFv3 := Lib.hid (HaF2.out.below (by omega) hb3)
 have HA3 := Lib.hid hf3
 clear hf3 hb3 hr3 HJ3 c0 c1 c2 c3 c4 c5 c6 f0 f1 f2
 go_upto_region 8 with (fail)
 generalize hW3 : World.alloc _ _ = W3
 obtain ⟨hbx3, hx3⟩ := bx1' hW3
 have HX3 := Lib.hid (HY3.out.below hbx3)
 have HB3 : Hid (Below w.heap.size w W3) := Below.step HBV3.out hbx3
 have HN3 := Lib.hid (HNv3.out.below hbx3)
 have HaO3 := Lib.hid (HaOv3.out.below hbx3)
 have HaF3 := Lib.hid (HaFv3.out.below (by omega) hbx3)
 have HbO3 : Hid (Own W3 34 V3.heap.size [.int .i64 ho3, .slice A3 2 d3, .slice B3 O3.length b3]) := ⟨[], by rw [List.append_nil]; exact hx3⟩
 have HbF3 := Lib.hid (HA3.out.below (by omega) hbx3)
 clear hW3 hbx3 hx3
 generalize V3.heap.size = q3 at *
 obtain ⟨c0, c1, c2, c3, c4, c5, c6, f0, f1, f2⟩ := HX3.out.cells
 simp only at c0 c1 c2 c3 c4 c5 c6 f0 f1 f2
 have hj4 := exJoinC HX3.out 0 ⟨1, 1, 0, 0, 0, false⟩ (by decide)
 simp only [KFact.cells] at hj4
 have HJ4 := Lib.hid hj4; clear hj4
 go_wp2_with (go_at_call 11; refine HJ4.out.mono ?_; rintro e V4 ⟨ho4, F4, O4, er4, A4, d4, B4, b4, rfl, hf4, hb4, hr4⟩; obtain rfl := exJoinE (f := ⟨0, [⟨1, 1, 0, 0, 0, false⟩], []⟩) (by decide +kernel) rfl exEvid7 hr4; refine Hid.out ?_)
 refine Lib.hid ?_
 have HY4 := Lib.hid (HX3.out.below hb4)
 have HBV4 : Hid (Below w.heap.size w V4) := Below.step HB3.out hb4
 have HNv4 := Lib.hid (HN3.out.below hb4)
 have HaOv4 := Lib.hid (HaO3.out.below hb4)
 have HaFv4 := Lib.hid (HaF3.out.below (by omega) hb4)
 have HbOv4 := Lib.hid (HbO3.out.below hb4)
 have HbFv4 := Lib.hid (HbF3.out.below (by omega) hb4)
 clear hf4 hb4 hr4 HJ4 c0 c1 c2 c3 c4 c5 c6 f0 f1 f2
 go_upto_region 9 with (fail)
 generalize hW4 : World.alloc _ _ = W4
 obtain ⟨hbx4, hx4⟩ := bx1' hW4
 have HX4 := Lib.hid (HY4.out.below hbx4)
 have HB4 : Hid (Below w.heap.size w W4) := Below.step HBV4.out hbx4
 have HN4 := Lib.hid (HNv4.out.below hbx4)
 have HaO4 := Lib.hid (HaOv4.out.below hbx4)
 have HaF4 := Lib.hid (HaFv4.out.below (by omega) hbx4)
 have HbO4 := Lib.hid (HbOv4.out.below hbx4)
 have HbF4 := Lib.hid (HbFv4.out.below (by omega) hbx4)
 clear hW4 hbx4 hx4
 generalize V4.heap.size = q4
 obtain ⟨c0, c1, c2, c3, c4, c5, c6, f0, f1, f2⟩ := HX4.out.cells
 simp only at c0 c1 c2 c3 c4 c5 c6 f0 f1 f2
 have hcc := exConC HX4.out
 simp only at hcc
 have HCC := Lib.hid hcc; clear hcc
 go_wp2_with (go_at_call 21; refine HCC.out.mono ?_; rintro e W5 ⟨rfl, hb5⟩; refine Hid.out ?_)
 refine Lib.hid ?_
 have HB5 : Hid (Below w.heap.size w W5) := Below.step HB4.out hb5
 have HN5 := Lib.hid (HN4.out.below hb5)
 have HaO5 := Lib.hid (HaO4.out.below hb5)
 have HaF5 := Lib.hid (HaF4.out.below (by omega) hb5)
 have HbO5 := Lib.hid (HbO4.out.below hb5)
 have HbF5 := Lib.hid (HbF4.out.below (by omega) hb5)
 clear hb5 HCC c0 c1 c2 c3 c4 c5 c6 f0 f1 f2
 have hsa : Calls Tryz.prog 22 #[.slice A1 exR.length d1, .slice (some ⟨W5.heap.size + 1 + 1 + 1, 0, none⟩) 3 3] ((((W5.alloc (.cells #[.int .i64 0, .int .i64 1, .int .i64 (-1)] 3)).alloc (.cells #[.int .i64 0, .int .i64 (-1)] 3)).alloc (.cells #[.int .i64 (-1)] 3)).alloc (.cells #[.slice (some ⟨W5.heap.size, 0, none⟩) 3 3, .slice (some ⟨W5.heap.size + 1, 0, none⟩) 2 2, .slice (some ⟨W5.heap.size + 1 + 1, 0, none⟩) 1 1] 22)) (fun e w' => e = .returned (.bool true) ∧ Below W5.heap.size W5 w') := by
  refine (sames_any exR exR ⟨A1, d1⟩ ⟨some ⟨W5.heap.size + 1 + 1 + 1, 0, none⟩, 3⟩ _ (HN5.out.below ?_) exNums).mono ?_
  · exact Below.alloc' (Below.alloc' (Below.alloc' (Below.alloc' (Below.refl _ _) _) _) _) _
  · rintro e z ⟨rfl, hz⟩
    exact ⟨by rw [decide_eq_true rfl], Below.step (Below.alloc' (Below.alloc' (Below.alloc' (Below.alloc' (Below.refl _ _) _) _) _) _) hz⟩
 have HSA := Lib.hid hsa; clear hsa
 go_wp2_with (go_at_call 22; refine HSA.out.mono ?_; rintro e W6 ⟨rfl, hb6⟩; refine Hid.out ?_)
 refine Lib.hid ?_
 have a1 := (HaO5.out.below hb6).cell (i := 1) rfl
 have b1 := (HbO5.out.below hb6).cell (i := 1) rfl
 obtain ⟨ga, oa, ea, _, ha⟩ := HaF5.out.fact (by decide)
 obtain ⟨gb, ob, eb, _, hbb⟩ := HbF5.out.fact (by decide)
 subst ea eb
 have a3 : W6.cell? ⟨ga, oa + 3, none⟩ = some (.int .i64 0) := ha 0 _ rfl W6 hb6 3 (by omega)
 have a9 : W6.cell? ⟨ga, oa + 6 + 3, none⟩ = some (.int .i64 0) := ha 1 _ rfl W6 hb6 3 (by omega)
 have b2 : W6.cell? ⟨gb, ob + 2, none⟩ = some (.int .i64 1) := hbb 0 _ rfl W6 hb6 2 (by omega)
 have b8 : W6.cell? ⟨gb, ob + 6 + 2, none⟩ = some (.int .i64 1) := hbb 1 _ rfl W6 hb6 2 (by omega)
 have b9 : W6.cell? ⟨gb, ob + 6 + 3, none⟩ = some (.int .i64 2) := hbb 1 _ rfl W6 hb6 3 (by omega)
 have HB6 : Hid (Below w.heap.size w W6) := Below.step HB5.out hb6
 clear hb6 ha hbb
 go_wp2
 go_ret
 exact ⟨rfl, HB6.out⟩
end Go.Proofs.YtahhdjeclbagnaaGreatDoor
namespace Go.Proofs.YtahhdjeclbagnaaGreatDoor
open Go.RowKit Go.Shelf
theorem okFile_known1 {C : KCon} {f : KFile} (h : okFile C f = true) : KnownL f.facts f.orders := by
 have h := okFile_known (C := C) (fs := [f]) (fun g hg => by rw [List.mem_singleton.1 hg]; exact h)
 rw [show factsOf [f] = f.facts by simp [factsOf], show ordersOf [f] = f.orders by simp [ordersOf]] at h
 exact h
theorem Fine.distinct {L T : List KFact} {O OO : List KBef} (h : Fine L O T OO) : Distinct T := h.tight.distinct (joinedF_distinct L)
theorem ComplIs.mem {C : KCon} {f : KFile} {u : Int} {L : List (List Int)} (h : ComplIs C f u L 0) : okFile C f = true ∧ 0 ≤ u ∧ u ≤ C.days ∧ ∃ T OO, Fine f.facts f.orders T OO ∧ ∀ x, x ∈ L ↔ ∃ day, Day T OO u day ∧ x = traceM T (daysOf T day) u := by
 rcases h with ⟨h, _⟩ | ⟨h1, h2, h3, ⟨h, _⟩ | ⟨T, OO, Y, hf, hy, ⟨h, _⟩ | ⟨_, _, rfl⟩⟩⟩
 · cases h
 · cases h
 · cases h
 · refine ⟨h1, h2, h3, T, OO, hf, fun x => ?_⟩
   rw [onceM_mem, List.mem_map]
   constructor
   · rintro ⟨D, hD, rfl⟩
     obtain ⟨day, rfl, hd⟩ := (hy.mem D).1 hD
     exact ⟨day, hd, rfl⟩
   · rintro ⟨day, hd, rfl⟩
     exact ⟨_, (hy.mem _).2 ⟨day, rfl, hd⟩, rfl⟩
theorem trace_day {T : List KFact} {day day' : Int → Int} {u : Int} (h : ∀ t ∈ T, min (day t.ref) u = min (day' t.ref) u) : traceM T (daysOf T day) u = traceM T (daysOf T day') u := by
 refine traceM_congr rfl (by simp [daysOf]) (fun d hd i => ?_)
 unfold daysOf
 rw [List.getElem?_map, List.getElem?_map]
 cases e : T[i]? with
 | none => simp
 | some t =>
  have := h t (List.mem_of_getElem? e)
  simp only [Option.map_some, Option.some.injEq]
  constructor <;> intro h1 <;> omega
theorem acts_tight {C : KCon} {f : KFile} {T : List KFact} {OO : List KBef} (hok : okFile C f = true) (h : Fine f.facts f.orders T OO) : ActsOk T := fun t ht => by
 have hd := okFactsL_distinct (okFile_facts hok)
 have h1 := h.tight
 rw [joinedF_self hd] at h1
 obtain ⟨x, hx, e⟩ := h1.had ht
 have h2 := okFact_all (okFactsL_ge (okFile_facts hok) x hx).2
 have h3 : x.act = t.act := congrArg (fun z => z.2.1) e
 omega
theorem begin_trace {T : List KFact} {D : List Int} {e l : Int} (hd : Distinct T) (hl : T.length = D.length) (ha : ActsOk T) (h0 : 0 ≤ e) (hel : e ≤ l) (h2 : l ≤ 2000) : beginM (traceM T D l) e = traceM T D e := by
 rw [traceM_pos hl (by omega) h2 hd.noTwice, traceM_pos hl h0 (by omega) hd.noTwice]
 have h := blocks_begin ha hd.noTwice D (e := e.toNat) (l := l.toNat) (by omega)
 rw [show ((e.toNat : Nat) : Int) = e by omega] at h
 exact h
theorem begins_plain {C : KCon} {f : KFile} {e l : Int} {L1 L2 : List (List Int)} (h1 : ComplIs C f e L1 0) (h2 : ComplIs C f l L2 0) (hel : e ≤ l) : (∀ x ∈ L2, beginM x e ∈ L1) ∧ ∀ y ∈ L1, ∃ x ∈ L2, beginM x e = y := by
 obtain ⟨hok, he0, he1, T, OO, hf, hm1⟩ := h1.mem
 obtain ⟨_, hl0, hl1, T', OO', hf', hm2⟩ := h2.mem
 have hk := okFile_known1 hok
 obtain ⟨rfl, rfl⟩ := hf.unique hf' hk
 have hday := (okFile_days hok).1
 have hb : ∀ day, beginM (traceM T (daysOf T day) l) e = traceM T (daysOf T day) e := fun day => begin_trace hf.distinct (by simp [daysOf]) (acts_tight hok hf) he0 hel (by omega)
 refine ⟨fun x hx => ?_, fun y hy => ?_⟩
 · obtain ⟨day, hd, rfl⟩ := (hm2 x).1 hx
   rw [hb, hm1]
   exact ⟨_, hd.cut hel, trace_day (fun t _ => by omega)⟩
 · obtain ⟨day, hd, rfl⟩ := (hm1 y).1 hy
   obtain ⟨day', hd', he⟩ := hd.extend hel hf.tight (joinedF_distinct _) (hk.known hf.ord) hf.le
   refine ⟨_, (hm2 _).2 ⟨day', hd', rfl⟩, ?_⟩
   rw [hb]
   exact trace_day (fun t ht => by have := he t ht; omega)
def dayOf (F : List KFact) (D : List Int) (r : Int) : Int := D.getD (findX F r).toNat 0
theorem findX_at {F : List KFact} (hd : Distinct F) {i : Nat} {x : KFact} (hx : F[i]? = some x) : findX F x.ref = i := by
 refine findX_some hx rfl (fun y hy e => ?_)
 obtain ⟨j, hj, hy'⟩ := List.mem_take_iff_getElem.1 hy
 have hl := (List.getElem?_eq_some_iff.1 hx).1
 have h1 := List.pairwise_iff_getElem.1 hd j i (by simp; omega) (by simpa using hl) (by omega)
 simp only [List.getElem_map] at h1
 have h2 := (List.getElem?_eq_some_iff.1 hx).2
 rw [h2, hy'] at h1
 omega
theorem dayOf_at {F : List KFact} (hd : Distinct F) {D : List Int} {i : Nat} {x : KFact} {d : Int} (hx : F[i]? = some x) (he : D[i]? = some d) : dayOf F D x.ref = d := by
 unfold dayOf
 rw [findX_at hd hx]
 simp [List.getD, he]
theorem MayM.may {f : KFile} {D : List Int} (hd : Distinct f.facts) (h : MayM f D) : May f.facts f.orders (dayOf f.facts D) := by
 obtain ⟨h1, h2, h3⟩ := h
 have at' : ∀ x ∈ f.facts, ∃ (i : Nat) (d : Int), f.facts[i]? = some x ∧ D[i]? = some d := fun x hx => by
  obtain ⟨i, hi⟩ := List.mem_iff_getElem?.1 hx
  have hl := (List.getElem?_eq_some_iff.1 hi).1
  exact ⟨i, D[i]'(by omega), hi, List.getElem?_eq_getElem _⟩
 refine ⟨fun x hx => ?_, fun x hx => ?_, fun b hb => ?_⟩
 · obtain ⟨i, d, hi, he⟩ := at' x hx
   rw [dayOf_at hd hi he]
   exact (h2 i x d hi he).1
 · obtain ⟨i, d, hi, he⟩ := at' x hx
   rw [dayOf_at hd hi he]
   exact (h2 i x d hi he).2
 · obtain ⟨i, j, d, e, hi, hj, hdi, hej, hle⟩ := h3 b hb
   unfold dayOf
   rw [hi, hj]
   simp [List.getD, hdi, hej, hle]
theorem daysOf_dayOf {F T : List KFact} {D : List Int} (hd : Distinct F) (hl : D.length = F.length) (hr : T.map (·.ref) = F.map (·.ref)) : daysOf T (dayOf F D) = D := by
 have hlen : T.length = F.length := by have := congrArg List.length hr; simpa using this
 have e : daysOf T (dayOf F D) = (T.map (·.ref)).map (dayOf F D) := by unfold daysOf; rw [List.map_map]; rfl
 rw [e, hr]
 apply List.ext_getElem?
 intro i
 rw [List.getElem?_map, List.getElem?_map]
 cases e1 : F[i]? with
 | none =>
  have := List.getElem?_eq_none_iff.1 e1
  rw [List.getElem?_eq_none (l := D) (by omega)]
  rfl
 | some x =>
  have h1 := (List.getElem?_eq_some_iff.1 e1).1
  have e2 : D[i]? = some (D[i]'(by omega)) := List.getElem?_eq_getElem _
  rw [e2]
  simp only [Option.map_some, Option.some.injEq]
  exact dayOf_at hd e1 e2
theorem tight_refs {F T : List KFact} {OO : List KBef} (h : Tight F T OO) : T.map (fun x => (x.ref, x.act)) = F.map (fun x => (x.ref, x.act)) := by
 have h1 := congrArg (List.map (fun z : Int × Int × Int × Bool => (z.1, z.2.1))) h.rest
 rw [List.map_map, List.map_map] at h1
 exact h1
theorem pair_refs {T F : List KFact} (h : T.map (fun x => (x.ref, x.act)) = F.map (fun x => (x.ref, x.act))) : T.map (·.ref) = F.map (·.ref) := by
 have h1 := congrArg (List.map Prod.fst) h
 rw [List.map_map, List.map_map] at h1
 exact h1
theorem complete_plain {C : KCon} {f : KFile} {D : List Int} (hok : okFile C f = true) (hm : MayM f D) :
 (∀ {ho F O er}, JoinRes C [f] ho F O er → er = 0) ∧ (∀ {u L er}, ComplIs C f u L er → er ≠ 23 ∧ (er = 0 → traceM f.facts D u ∈ L) ∧ (er ≠ 0 → er = 3 ∨ u < 0 ∨ C.days < u)) := by
 have hk := okFile_known1 hok
 have hd := okFactsL_distinct (okFile_facts hok)
 have hmay := hm.may hd
 have hne : ¬ Evid f.facts f.orders := hmay.notEvid hd.same
 refine ⟨fun {ho F O er} h => ?_, fun {u L er} h => ⟨?_, ?_, ?_⟩⟩
 · rcases h with ⟨_, _, _, _, h⟩ | ⟨_, f0, _, h⟩
   · exact absurd ⟨by simp, fun g hg => by rw [List.mem_singleton.1 hg]; exact hok⟩ h
   · rw [show factsOf [f] = f.facts by simp [factsOf], show ordersOf [f] = f.orders by simp [ordersOf]] at h
     rcases h with ⟨h, _⟩ | ⟨_, _, _, _, h⟩
     · exact h
     · exact absurd h hne
 · rintro rfl
   rcases h with ⟨h, _⟩ | ⟨_, _, _, ⟨_, _, h⟩ | ⟨T, OO, Y, _, _, ⟨h, _⟩ | ⟨h, _⟩⟩⟩
   · cases h
   · exact hne h
   · cases h
   · cases h
 · rintro rfl
   obtain ⟨_, h0, h1, T, OO, hf, hmem⟩ := h.mem
   have ht := hf.tight
   rw [joinedF_self hd] at ht
   have hT : May T OO (dayOf f.facts D) := by
    have := hmay.tight hf.ord hf.tight
    exact this
   rw [hmem]
   refine ⟨_, hT.day u, ?_⟩
   have e1 : traceM f.facts D u = traceM T D u := traceM_congr (tight_refs ht).symm rfl (fun _ _ _ => Iff.rfl)
   rw [e1]
   have e2 := daysOf_dayOf (T := T) hd hm.1 (pair_refs (tight_refs ht))
   rw [← e2]
   exact (trace_day (fun t _ => by rw [e2]; omega)).symm
 · intro hne0
   rcases h with ⟨_, _, h⟩ | ⟨_, _, _, ⟨_, _, h⟩ | ⟨T, OO, Y, _, _, ⟨h, _⟩ | ⟨h, _⟩⟩⟩
   · rcases Int.lt_or_le u 0 with h1 | h1
     · exact .inr (.inl h1)
     · rcases Int.lt_or_le C.days u with h2 | h2
       · exact .inr (.inr h2)
       · exact absurd ⟨hok, h1, h2⟩ h
   · exact absurd h hne
   · exact .inl h
   · exact absurd h hne0
end Go.Proofs.YtahhdjeclbagnaaGreatDoor
namespace Go.Proofs.YtahhdjeclbagnaaGreatDoor
open Go.RowKit Go.Shelf
theorem in64_hi {i : Int} (h : In64 i) : i ≤ 9223372036854775807 := by
 have e1 : IntKind.i64.max = 9223372036854775807 := by decide
 simp only [In64, Lit.wf, Bool.and_eq_true, decide_eq_true_eq, e1] at h
 exact h.2
structure CoAt (V : World) (cb : Nat) (v : CV) (C : KCon) : Prop where
 con : ConAt V v C
 cbox : Own V 27 cb [.int .i64 C.parties, .slice v.h.A C.holders.length v.h.c, .slice v.u.A C.units.length v.u.c, .slice v.a.A C.acts.length v.a.c, .slice v.k.A C.clauses.length v.k.c, .int .i64 C.days, .slice v.o.A C.off.length v.o.c]
theorem CoAt.below {V V' : World} {cb : Nat} {v : CV} {C : KCon} (h : CoAt V cb v C) (hb : Below V.heap.size V V') : CoAt V' cb v C := ⟨h.con.below hb, h.cbox.below hb⟩
theorem CoAt.cells {V : World} {cb : Nat} {v : CV} {C : KCon} (h : CoAt V cb v C) :
 V.cell? ⟨cb, 0, none⟩ = some (.int .i64 C.parties) ∧ V.cell? ⟨cb, 1, none⟩ = some (.slice v.h.A C.holders.length v.h.c) ∧ V.cell? ⟨cb, 2, none⟩ = some (.slice v.u.A C.units.length v.u.c) ∧ V.cell? ⟨cb, 3, none⟩ = some (.slice v.a.A C.acts.length v.a.c) ∧ V.cell? ⟨cb, 4, none⟩ = some (.slice v.k.A C.clauses.length v.k.c) ∧ V.cell? ⟨cb, 5, none⟩ = some (.int .i64 C.days) ∧ V.cell? ⟨cb, 6, none⟩ = some (.slice v.o.A C.off.length v.o.c) :=
 ⟨h.cbox.cell rfl, h.cbox.cell rfl, h.cbox.cell rfl, h.cbox.cell rfl, h.cbox.cell rfl, h.cbox.cell rfl, h.cbox.cell rfl⟩
structure FiAt (V : World) (fb : Nat) (t : FV) (f : KFile) : Prop where
 file : FileAt V t f
 fbox : Own V 34 fb [.int .i64 f.house, .slice t.f.A f.facts.length t.f.c, .slice t.o.A f.orders.length t.o.c]
theorem FiAt.below {V V' : World} {fb : Nat} {t : FV} {f : KFile} (h : FiAt V fb t f) (hb : Below V.heap.size V V') : FiAt V' fb t f := ⟨h.file.below hb, h.fbox.below hb⟩
theorem FiAt.cells {V : World} {fb : Nat} {t : FV} {f : KFile} (h : FiAt V fb t f) : V.cell? ⟨fb, 0, none⟩ = some (.int .i64 f.house) ∧ V.cell? ⟨fb, 1, none⟩ = some (.slice t.f.A f.facts.length t.f.c) ∧ V.cell? ⟨fb, 2, none⟩ = some (.slice t.o.A f.orders.length t.o.c) := ⟨h.fbox.cell rfl, h.fbox.cell rfl, h.fbox.cell rfl⟩
theorem one_row {W : World} {t : FV} {f : KFile} (hF : FileAt W t f) : FilesAt (W.alloc (.cells #[.int .i64 f.house, .slice t.f.A f.facts.length t.f.c, .slice t.o.A f.orders.length t.o.c] 34)) ⟨some ⟨W.heap.size, 0, none⟩, 1⟩ [f] := by
 generalize hW2 : World.alloc _ _ = W2
 obtain ⟨HB, h0⟩ := bx1 hW2
 have o : Own W2 34 W.heap.size (fileRow [(f, t)]) := ⟨[], by rw [List.append_nil]; exact h0⟩
 exact FilesAt.row (c := 1) o (by simp) (by unfold maxLen; omega) (fun q hq => by rw [List.mem_singleton.1 hq]; exact hF.below HB.out)
def SmallOne (f : KFile) (W : World) (e : Ending) (w' : World) : Prop := ∃ x : Bool, e = .returned (.bool x) ∧ (x = true → f.facts.length ≤ 14 ∧ f.orders.length ≤ 14) ∧ Below W.heap.size W w'
theorem small_one {W : World} {v : CV} {C : KCon} {t : FV} {f : KFile} (hC : ConAt W v C) (hF : FileAt W t f) :
 Calls Tryz.prog 10 #[.agg #[.int .i64 C.parties, .slice v.h.A C.holders.length v.h.c, .slice v.u.A C.units.length v.u.c, .slice v.a.A C.acts.length v.a.c, .slice v.k.A C.clauses.length v.k.c, .int .i64 C.days, .slice v.o.A C.off.length v.o.c], .slice (some ⟨W.heap.size, 0, none⟩) 1 1]
  (W.alloc (.cells #[.int .i64 f.house, .slice t.f.A f.facts.length t.f.c, .slice t.o.A f.orders.length t.o.c] 34)) (SmallOne f W) := by
 refine (lsmall_any v C [f] ⟨some ⟨W.heap.size, 0, none⟩, 1⟩ _ (hC.below (Below.alloc' (Below.refl _ _) _)) (one_row hF)).mono ?_
 rintro e w' ⟨x, rfl, h, hb⟩
 exact ⟨x, rfl, fun hx => (smallF_len (h hx)).2 f (by simp), Below.step (Below.alloc' (Below.refl _ _) _) hb⟩
def JoinOne (C : KCon) (f : KFile) (W : World) (e : Ending) (w' : World) : Prop :=
 ∃ (ho' : Int) (F' : List KFact) (O' : List KBef) (er : Int) (A : Option Addr) (c : Nat) (A' : Option Addr) (c' : Nat), e = .returned (.tuple #[.agg #[.int .i64 ho', .slice A F'.length c, .slice A' O'.length c'], .int .i64 er]) ∧ FileAt w' ⟨⟨A, c⟩, ⟨A', c'⟩⟩ ⟨ho', F', O'⟩ ∧ Below W.heap.size W w' ∧ JoinRes C [f] ho' F' O' er
theorem join_one {W : World} {v : CV} {C : KCon} {t : FV} {f : KFile} (hC : ConAt W v C) (hF : FileAt W t f) (hR : ∀ x ∈ f.facts, In64 x.ref) (h1 : f.facts.length ≤ 14) (h2 : f.orders.length ≤ 14) :
 Calls Tryz.prog 11 #[.agg #[.int .i64 C.parties, .slice v.h.A C.holders.length v.h.c, .slice v.u.A C.units.length v.u.c, .slice v.a.A C.acts.length v.a.c, .slice v.k.A C.clauses.length v.k.c, .int .i64 C.days, .slice v.o.A C.off.length v.o.c], .slice (some ⟨W.heap.size, 0, none⟩) 1 1]
  (W.alloc (.cells #[.int .i64 f.house, .slice t.f.A f.facts.length t.f.c, .slice t.o.A f.orders.length t.o.c] 34)) (JoinOne C f W) := by
 refine (join_any v C ⟨some ⟨W.heap.size, 0, none⟩, 1⟩ [f] _ (hC.below (Below.alloc' (Below.refl _ _) _)) (one_row hF) (by simp) (by simpa [factsOf] using hR) (by simp [factsOf]; omega) (by simp [ordersOf]; omega)).mono ?_
 rintro e w' ⟨ho', F', O', er, A, c, A', c', rfl, hf, _, hb, hj⟩
 exact ⟨ho', F', O', er, A, c, A', c', rfl, hf, Below.step (Below.alloc' (Below.refl _ _) _) hb, hj⟩
theorem ComplIs.len {C : KCon} {f : KFile} {u : Int} {L : List (List Int)} (h : ComplIs C f u L 0) : ∀ x ∈ L, x.length ≤ 10000 := fun x hx => by
 obtain ⟨hok, h0, h1, T, OO, hf, hm⟩ := h.mem
 obtain ⟨day, _, rfl⟩ := (hm x).1 hx
 have h2 := trace_len (F := T) (D := daysOf T day) (u := u)
 have h3 := (okFile_days hok).1
 have h4 := (okFile_len hok).1
 have h5 := hf.tight
 rw [joinedF_self (okFactsL_distinct (okFile_facts hok))] at h5
 have h6 := tight_len h5
 omega
theorem ComplIs.count {C : KCon} {f : KFile} {u : Int} {L : List (List Int)} {er : Int} (h : ComplIs C f u L er) : L.length ≤ 400 := by
 rcases h with ⟨_, rfl, _⟩ | ⟨_, _, _, ⟨_, rfl, _⟩ | ⟨T, OO, Y, _, _, ⟨_, rfl, _⟩ | ⟨_, h1, rfl⟩⟩⟩
 · simp
 · simp
 · simp
 · have := onceM_len (Y.map (fun D => traceM T D u))
   rw [List.length_map] at this
   omega
end Go.Proofs.YtahhdjeclbagnaaGreatDoor
