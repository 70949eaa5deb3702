/-
  Act1
-/
import Derived.Test.YtaielhafpmjkaaaGreatDoorQ23
import Derived.Test.YtaielhafpmjkaaaGreatDoorQ18
namespace Go.Proofs.YtaielhafpmjkaaaGreatDoor
open Go.RowKit Go.Shelf
attribute [local go_sem] Oper.semAt_some quietB quietUponB
set_option maxRecDepth 100000 in
set_option maxHeartbeats 4000000 in
theorem act_do {w0 w : World} {g : Nat} {v : CV} {C : KCon} {t : TV} {s : KState} {gh gu gm : Nat} (h : WorkAt w0 w g v C t s gh gu gm) (i : Nat) (a : KAct) (ha : C.acts[i]? = some a) (hk1 : a.kind = 1) (hlen : s.marks.length = C.clauses.length)
 (hin : ∀ k ∈ C.clauses, ∀ c ∈ k.start, 0 ≤ c.clause ∧ c.clause < C.clauses.length) (hro : ∀ k ∈ C.clauses, k.kind ≠ 4 → 0 ≤ k.role ∧ k.role < s.holders.length)
 (hki : ∀ k ∈ C.clauses, 1 ≤ k.kind ∧ k.kind ≤ 4) (har : a.role ≠ -1 → 0 ≤ a.role ∧ a.role < s.holders.length) (hgo : ∀ m ∈ s.marks, m.runs = true → 0 ≤ m.got ∧ m.got ≤ 1000000) :
 Calls Tryz.prog 49 #[.pointer (some ⟨g, 0, none⟩), .int .i64 i] w (WorkPost w0 g v C t (C.act i a s) gh gu gm w) := by
 have hia : i < C.acts.length := (List.getElem?_eq_some_iff.1 ha).1
 obtain ⟨b, aoff, hA, hbl, hac⟩ := h.con.act ha
 obtain ⟨⟨vhA, vhc⟩, ⟨vuA, vuc⟩, ⟨vaA, vac⟩, ⟨vkA, vkc⟩, ⟨voA, voc⟩⟩ := v
 simp only at hA
 subst hA
 obtain ⟨moff, hmA, _⟩ := h.marks.at0
 obtain ⟨⟨thA, thc⟩, ⟨tuA, tuc⟩, ⟨tmA, tmc⟩⟩ := t
 simp only at hmA
 subst hmA
 obtain ⟨day, holders, used, ms⟩ := s
 simp only at hlen hro har hgo
 obtain ⟨ki, ro, gi, tg, un, ⟨ln, ld⟩⟩ := a
 simp only at hk1 har
 subst hk1
 have g3 : w.cell? ⟨g, 3, none⟩ = some (.slice (some ⟨b, aoff, none⟩) C.acts.length vac) := h.cell 3
 have hac2 := hac w h.below
 obtain ⟨a0, a1, a2, a3, a4, a5, a6⟩ := rw7 hac2 rfl
 clear hac hac2
 have hgl := lt_of_heap h.head
 have hbl2 : b < w.heap.size := Nat.lt_of_lt_of_le hbl h.below.size
 have i0 : (0 : Int) ≤ (i : Int) := by omega
 have i1 : (i : Int) < (C.acts.length : Int) := by omega
 have H := Lib.hid h; clear h
 have HA := Lib.hid ha; clear ha
 have HL := Lib.hid hlen; clear hlen
 have HIN := Lib.hid hin; clear hin
 have HRO := Lib.hid hro; clear hro
 have HKI := Lib.hid hki; clear hki
 have HAR := Lib.hid har; clear har
 have HGO := Lib.hid hgo; clear hgo
 refine (callsIn_wide (n := 3)).1 ?_
 refine callsIn_of_wp_marks Tryz.func49 rfl trivial ?_ rfl
 simp only [Tryz.ntmps49, List.size_toArray, List.length_cons, List.length_nil, Nat.reduceAdd, Nat.reduceSub, Array.replicate_succ, Array.replicate_zero, List.push_toArray, List.append_toArray, List.nil_append, List.cons_append]
 gi_wp2
 obtain ⟨W0, HW0⟩ : ∃ W0, Hid (W0 = (w.alloc (.cells #[.pointer (some ⟨g, 0, none⟩)] 82)).alloc (.cells #[.int .i64 i] 3)) := ⟨_, rfl⟩
 rw [← HW0.out]
 have HB0 : Hid (Below w.heap.size w W0) := by
  show Below _ _ _
  rw [HW0.out]
  exact Below.alloc' (Below.alloc' (Below.refl _ _) _) _
 have hs0 : W0.heap.size = w.heap.size + 2 := by rw [HW0.out]; simp
 have o0 : W0.cell? ⟨w.heap.size, 0, none⟩ = some (.pointer (some ⟨g, 0, none⟩)) := by
  have h : W0.heap[w.heap.size]? = some (.cells #[.pointer (some ⟨g, 0, none⟩)] 82 (0, 0)) := by
   rw [HW0.out]
   exact (Below.heap_alloc _ _ _ (by simp)).trans (heap_alloc_new w _)
  exact (cell_of_row W0 _ 0 _ _ _ h).trans rfl
 have o1 : W0.cell? ⟨w.heap.size + 1, 0, none⟩ = some (.int .i64 i) := by
  have h : W0.heap[w.heap.size + 1]? = some (.cells #[.int .i64 i] 3 (0, 0)) := by
   rw [HW0.out]
   have h := heap_alloc_new (w.alloc (.cells #[.pointer (some ⟨g, 0, none⟩)] 82)) (.cells #[.int .i64 i] 3)
   rw [World.size_alloc] at h
   exact h
  exact (cell_of_row W0 _ 0 _ _ _ h).trans rfl
 have g3' := ((bcell HB0.out).1 _ _ hgl).trans g3
 have a0' := ((bcell HB0.out).1 _ _ hbl2).trans a0
 have a1' := ((bcell HB0.out).1 _ _ hbl2).trans a1
 have a2' := ((bcell HB0.out).1 _ _ hbl2).trans a2
 have a3' := ((bcell HB0.out).1 _ _ hbl2).trans a3
 have a4' := ((bcell HB0.out).1 _ _ hbl2).trans a4
 have a5' := ((bcell HB0.out).1 _ _ hbl2).trans a5
 have a6' := ((bcell HB0.out).1 _ _ hbl2).trans a6
 have hgl0 : g < W0.heap.size := by omega
 have hbl0 : b < W0.heap.size := by omega
 have hl00 : w.heap.size < W0.heap.size := by omega
 have hl01 : w.heap.size + 1 < W0.heap.size := by omega
 clear g3 a0 a1 a2 a3 a4 a5 a6
 have HS0 := Lib.hid hs0; clear hs0
 gi_region
 obtain ⟨W1, HW1⟩ : ∃ W1, Hid (W1 = (W0.alloc (.cells #[.int .i64 1, .int .i64 ro, .int .i64 gi, .int .i64 tg, .int .i64 un, .int .i64 ln, .int .i64 ld] 67)).drew) := ⟨_, rfl⟩
 rw [← HW1.out]
 have HB1 : Hid (Below w.heap.size w W1) := by
  show Below _ _ _
  rw [HW1.out]
  exact (Below.alloc' HB0.out _).drew
 have hb01 : Below W0.heap.size W0 W1 := by
  rw [HW1.out]
  exact (Below.alloc' (Below.refl _ _) _).drew
 have hs0 := HS0.out
 have hW1 : WorkAt w0 W1 g ⟨⟨vhA, vhc⟩, ⟨vuA, vuc⟩, ⟨some ⟨b, aoff, none⟩, vac⟩, ⟨vkA, vkc⟩, ⟨voA, voc⟩⟩ C ⟨⟨thA, thc⟩, ⟨tuA, tuc⟩, ⟨some ⟨gm, moff, none⟩, tmc⟩⟩ ⟨day, holders, used, ms⟩ gh gu gm := H.out.on HB1.out
 have hs1 : W1.heap.size = w.heap.size + 3 := by rw [HW1.out]; simp [hs0]
 have p0 := ((bcell hb01).1 _ _ hl00).trans o0
 have p1 := ((bcell hb01).1 _ _ hl01).trans o1
 have p2 : W1.cell? ⟨w.heap.size + 2, 0, none⟩ = some (.int .i64 1) := by
  have h : W1.heap[w.heap.size + 2]? = some (.cells #[.int .i64 1, .int .i64 ro, .int .i64 gi, .int .i64 tg, .int .i64 un, .int .i64 ln, .int .i64 ld] 67 (0, 0)) := by
   have h := heap_alloc_new W0 (.cells #[.int .i64 1, .int .i64 ro, .int .i64 gi, .int .i64 tg, .int .i64 un, .int .i64 ln, .int .i64 ld] 67)
   rw [hs0] at h
   rw [HW1.out]
   exact h
  exact (cell_of_row W1 _ 0 _ _ _ h).trans rfl
 rw [hs0]
 clear g3' a0' a1' a2' a3' a4' a5' a6' o0 o1 hgl0 hbl0 hl00 hl01 hb01 HW0 HB0 HS0 hs0
 clear i0 i1
 gi_wp2
 refine wpIn_region_preN 12 (Lax.wide _) (by simp) (by kernel_rfl) (by kernel_rfl) ?_
 simp only [List.take_succ_cons, List.take_zero, List.drop_succ_cons, List.drop_zero]
 repeat (go_big_quiet_step (fail))
 refine wpQuiet_nil ?_
 rintro _ ⟨mq, rfl⟩
 gi_wp2_with (refine ⟨trivial, ?_⟩; gi_at_call 68; refine (callsIn_wide.2 (runningSeq_any _ _)).mono ?_; rintro e z2 ⟨rfl, rfl⟩)
 obtain ⟨W2, HW2⟩ : ∃ W2, Hid (W2 = (W1.drewN mq).alloc (.cells #[.pointer (some ⟨g, 0, none⟩)] 82)) := ⟨_, rfl⟩
 rw [show (W1.drewN mq).alloc (.cells #[.pointer (some ⟨g, 0, none⟩)] 82) = W2 from HW2.out.symm]
 have HB2 : Hid (Below W1.heap.size W1 W2) := by
  show Below _ _ _
  rw [HW2.out]
  exact (below_drewN _ _).alloc (Nat.le_refl _) _
 have hW2 : WorkAt w0 W2 g ⟨⟨vhA, vhc⟩, ⟨vuA, vuc⟩, ⟨some ⟨b, aoff, none⟩, vac⟩, ⟨vkA, vkc⟩, ⟨voA, voc⟩⟩ C ⟨⟨thA, thc⟩, ⟨tuA, tuc⟩, ⟨some ⟨gm, moff, none⟩, tmc⟩⟩ ⟨day, holders, used, ms⟩ gh gu gm := hW1.on HB2.out
 have hs2 : W2.heap.size = w.heap.size + 4 := by rw [HW2.out]; simp [hs1]
 have x0 := ((bcell HB2.out).1 w.heap.size 0 (by omega)).trans p0
 have x1 := ((bcell HB2.out).1 (w.heap.size + 1) 0 (by omega)).trans p1
 have x2 := ((bcell HB2.out).1 (w.heap.size + 2) 0 (by omega)).trans p2
 have x3 : W2.cell? ⟨w.heap.size + 3, 0, none⟩ = some (.pointer (some ⟨g, 0, none⟩)) := by
  have h := heap_alloc_new (W1.drewN mq) (.cells #[.pointer (some ⟨g, 0, none⟩)] 82)
  rw [show (W1.drewN mq).heap.size = w.heap.size + 3 from hs1, show (W1.drewN mq).alloc (.cells #[.pointer (some ⟨g, 0, none⟩)] 82) = W2 from HW2.out.symm] at h
  exact (cell_of_row W2 _ 0 _ _ _ h).trans rfl
 have hn0 := H.out.notNew (k := w.heap.size) (Nat.le_refl _)
 have hn1 := H.out.notNew (k := w.heap.size + 1) (by omega)
 have hn2 := H.out.notNew (k := w.heap.size + 2) (by omega)
 have hn3 := H.out.notNew (k := w.heap.size + 3) (by omega)
 clear p0 p1 p2 HW1 HW2 hW1
 rw [show w.heap.size + 1 + 1 + 1 = w.heap.size + 3 by omega]
 refine wpIn_runs (ms0 := ms) (Bw := w.heap.size + 3) (pauseMark C i) (fun i' ms j h => pauseMark_other C i i' ms j h) (fun i' ms => pauseMark_len C i i' ms) (by omega) rfl rfl hW2 x3 (by omega) hn3 ?a1 ?assign ?body ?done
 case assign =>
  intro l x W K hK
  gi_wp2
  exact hK
 case body =>
  as_aux_lemma =>
   intro l x m M W hm hrun hml hmx hW hU
   have y0 := (hU.cell (o := 0) (by omega) hn0).trans x0
   have y1 := (hU.cell (o := 0) (by omega) hn1).trans x1
   have hxl : x < ms.length := by exact (List.getElem?_eq_some_iff.1 hm).1
   have hxc : x < C.clauses.length := by rw [← HL.out]; exact hxl
   obtain ⟨k, hk⟩ : ∃ k, C.clauses[x]? = some k := ⟨C.clauses[x], List.getElem?_eq_getElem hxc⟩
   have hkm := List.mem_of_getElem? hk
   have hki := HKI.out k hkm
   obtain ⟨kb, koff, st, hK, hkb, hkc, _⟩ := hW.con.clause hk
   simp only at hK
   subst hK
   have hkc2 := hkc _ hW.below
   have hkbm : kb ≠ gm := fun e => by have h1 := hW.newM; omega
   obtain ⟨k0, ro2, ac, ne, start, af, gr, bu, fi, pa, re, ⟨vn, vd⟩, un2, tg2, wa⟩ := k
   obtain ⟨stA, stc⟩ := st
   simp only at hki
   obtain ⟨c0, c1, c2, c3, c4, c5, c6, c7, c8, c9, c10, c11, c12, c13, c14, c15⟩ := rw16 hkc2 rfl
   clear hkc2 hkc
   obtain ⟨moff', hmA', hgl', hcell', hfz'⟩ := hW.markAt hmx
   simp only [Option.some.injEq, Addr.mk.injEq, true_and, and_true] at hmA'
   subst hmA'
   obtain ⟨m0, m1, m2, m3, m4⟩ := m
   have d4 : W.cell? ⟨gm, moff + x * 5 + 4, none⟩ = some (.bool m4) := hcell' 4 (by omega)
   have f4 := hfz' (moff + x * 5 + 4)
   clear hcell' hfz'
   have k4 : W.cell? ⟨g, 4, none⟩ = some (.slice (some ⟨kb, koff, none⟩) C.clauses.length vkc) := hW.cell 4
   have k10 : W.cell? ⟨g, 10, none⟩ = some (.slice (some ⟨gm, moff, none⟩) M.length tmc) := hW.cell 10
   have HW := Lib.hid hW; clear hW
   have HK := Lib.hid hk; clear hk
   have HMX := Lib.hid hmx; clear hmx
   have x00 : (0 : Int) ≤ (x : Int) := by omega
   have x01 : (x : Int) < (C.clauses.length : Int) := by omega
   have x02 : (x : Int) < (M.length : Int) := by rw [hml, HL.out]; exact x01
   have HF : Hid (pauseMark C i x M = cond ((i : Int) == pa) (M.set x ⟨m0, m1, m2, m3, true⟩) (cond ((i : Int) == re) (M.set x ⟨m0, m1, m2, m3, false⟩) M)) := by
    show _ = _
    simp only [pauseMark, HK.out, HMX.out]
   clear x0 x1 x2 x3 hn0 hn1 hn2 hn3 hW2 HB2 hs2 HB1 hs1 hm hrun hml hxl hxc hkm HKI HIN HRO HAR HGO H HA hU hgl hbl hbl2 hia hki
   cases q1 : ((i : Int) == pa) with
   | true =>
    gi_wp2
    refine ⟨?_, (Upd.refl _ _).setCell (.inl (.inr (.inr (.inr rfl)))) _⟩
    rw [HF.out, q1]
    exact HW.out.markCell (j := 4) (m' := ⟨m0, m1, m2, m3, true⟩) HMX.out (by omega) rfl
   | false =>
    cases q2 : ((i : Int) == re) with
    | true =>
     gi_wp2
     refine ⟨?_, (Upd.refl _ _).setCell (.inl (.inr (.inr (.inr rfl)))) _⟩
     rw [HF.out, q1, q2]
     exact HW.out.markCell (j := 4) (m' := ⟨m0, m1, m2, m3, false⟩) HMX.out (by omega) rfl
    | false =>
     gi_wp2
     refine ⟨?_, Upd.refl _ _⟩
     rw [HF.out, q1, q2]
     exact HW.out
 case done =>
  as_aux_lemma =>
   intro D1 W3 hD1 hW3 hU3 hK1
   generalize hP : (runsTo ms ms.length).foldl (fun ms i' => pauseMark C i i' ms) ms = ms1 at hW3
   have HP : Hid (C.paused i ms = ms1) := hP
   clear hP
   have hpl : ms1.length = ms.length := by rw [← HP.out]; exact paused_len _ _ _
   have y0 := (hU3.cell (o := 0) (by omega) hn0).trans x0
   have y1 := (hU3.cell (o := 0) (by omega) hn1).trans x1
   have y2 := (hU3.cell (o := 0) (by omega) hn2).trans x2
   have hs3 := hU3.size
   have hd1l := lt_of_heap hK1
   have hDn1 : ¬ Works g gh gu gm D1 := H.out.notNew (by omega)
   clear x0 x1 x2 x3 hn3 hW2 hU3 HB2
   have HPL := Lib.hid hpl; clear hpl
   gi_wp2
   obtain ⟨W4, HW4⟩ : ∃ W4, Hid (W4 = W3.alloc (.cells #[.nilFunc, .func (.func 70) #[] #[], .func (.func 71) #[] #[], .func (.func 65) #[] #[], .func (.func 65) #[] #[]] 99)) := ⟨_, rfl⟩
   rw [← HW4.out]
   have HB4 : Hid (Below W3.heap.size W3 W4) := by
    show Below _ _ _
    rw [HW4.out]
    exact Below.alloc' (Below.refl _ _) _
   have hs4 : W4.heap.size = W3.heap.size + 1 := by rw [HW4.out]; simp
   have hh4 : W4.heap[W3.heap.size]? = some (.cells #[.nilFunc, .func (.func 70) #[] #[], .func (.func 71) #[] #[], .func (.func 65) #[] #[], .func (.func 65) #[] #[]] 99 (0, 0)) := by
    rw [HW4.out]
    exact heap_alloc_new W3 _
   have HWZ : Hid (∀ z : Bl W4, WorkAt w0 z.val g ⟨⟨vhA, vhc⟩, ⟨vuA, vuc⟩, ⟨some ⟨b, aoff, none⟩, vac⟩, ⟨vkA, vkc⟩, ⟨voA, voc⟩⟩ C ⟨⟨thA, thc⟩, ⟨tuA, tuc⟩, ⟨some ⟨gm, moff, none⟩, tmc⟩⟩ ⟨day, holders, used, ms1⟩ gh gu gm) := fun z => hW3.on (Below.step HB4.out z.prop)
   have b0 : ∀ z : Bl W4, z.val.cell? ⟨w.heap.size, 0, none⟩ = some (.pointer (some ⟨g, 0, none⟩)) := fun z => z.cell (((bcell HB4.out).1 _ _ (by omega)).trans y0)
   have b1 : ∀ z : Bl W4, z.val.cell? ⟨w.heap.size + 1, 0, none⟩ = some (.int .i64 i) := fun z => z.cell (((bcell HB4.out).1 _ _ (by omega)).trans y1)
   have B2 : Hid (∀ z : Bl W4, z.val.cell? ⟨w.heap.size + 2, 0, none⟩ = some (.int .i64 1)) := fun z => z.cell (((bcell HB4.out).1 _ _ (by omega)).trans y2)
   have HD1 : Hid (∀ z : Bl W4, z.val.heap[D1]? = some (.deferred (some []))) := fun z => (z.prop.block D1 (by omega)).trans ((HB4.out.block D1 (by omega)).trans hK1)
   have g0 : ∀ z : Bl W4, z.val.cell? ⟨g, 0, none⟩ = some (.int .i64 C.parties) := fun z => (HWZ.out z).cell 0
   have g1 : ∀ z : Bl W4, z.val.cell? ⟨g, 1, none⟩ = some (.slice vhA C.holders.length vhc) := fun z => (HWZ.out z).cell 1
   have g2 : ∀ z : Bl W4, z.val.cell? ⟨g, 2, none⟩ = some (.slice vuA C.units.length vuc) := fun z => (HWZ.out z).cell 2
   have g3 : ∀ z : Bl W4, z.val.cell? ⟨g, 3, none⟩ = some (.slice (some ⟨b, aoff, none⟩) C.acts.length vac) := fun z => (HWZ.out z).cell 3
   have g4 : ∀ z : Bl W4, z.val.cell? ⟨g, 4, none⟩ = some (.slice vkA C.clauses.length vkc) := fun z => (HWZ.out z).cell 4
   have g5 : ∀ z : Bl W4, z.val.cell? ⟨g, 5, none⟩ = some (.int .i64 C.days) := fun z => (HWZ.out z).cell 5
   have g6 : ∀ z : Bl W4, z.val.cell? ⟨g, 6, none⟩ = some (.slice voA C.off.length voc) := fun z => (HWZ.out z).cell 6
   have g7 : ∀ z : Bl W4, z.val.cell? ⟨g, 7, none⟩ = some (.int .i64 day) := fun z => (HWZ.out z).cell 7
   have g8 : ∀ z : Bl W4, z.val.cell? ⟨g, 8, none⟩ = some (.slice thA holders.length thc) := fun z => (HWZ.out z).cell 8
   have g9 : ∀ z : Bl W4, z.val.cell? ⟨g, 9, none⟩ = some (.slice tuA used.length tuc) := fun z => (HWZ.out z).cell 9
   have g10 : ∀ z : Bl W4, z.val.cell? ⟨g, 10, none⟩ = some (.slice (some ⟨gm, moff, none⟩) ms1.length tmc) := fun z => (HWZ.out z).cell 10
   have HDO : Hid (∀ z : Bl W4, Calls Tryz.prog 72 #[.agg #[.int .i64 C.parties, .slice vhA C.holders.length vhc, .slice vuA C.units.length vuc, .slice (some ⟨b, aoff, none⟩) C.acts.length vac, .slice vkA C.clauses.length vkc, .int .i64 C.days, .slice voA C.off.length voc], .agg #[.int .i64 day, .slice thA holders.length thc, .slice tuA used.length tuc, .slice (some ⟨gm, moff, none⟩) ms1.length tmc], .int .i64 i] z.val (RetB (.int .i64 (doerOf holders ⟨1, ro, gi, tg, un, ⟨ln, ld⟩⟩)) z.val)) := fun z =>
    doer_any ⟨⟨vhA, vhc⟩, ⟨vuA, vuc⟩, ⟨some ⟨b, aoff, none⟩, vac⟩, ⟨vkA, vkc⟩, ⟨voA, voc⟩⟩ C ⟨⟨thA, thc⟩, ⟨tuA, tuc⟩, ⟨some ⟨gm, moff, none⟩, tmc⟩⟩ ⟨day, holders, used, ms1⟩ i ⟨1, ro, gi, tg, un, ⟨ln, ld⟩⟩ z.val ((HWZ.out z).con.below (HWZ.out z).below) (HWZ.out z).state HA.out HAR.out
   generalize hby : doerOf holders ⟨1, ro, gi, tg, un, ⟨ln, ld⟩⟩ = who at HDO
   have HBY := Lib.hid hby; clear hby
   clear y0 y1 y2 hW3 hK1
   refine wpIn_region_float (s := (⟨W4, Below.refl _ _⟩ : Bl W4)) 11 10 _ (.cells #[.int .i64 0] 3) (Lax.wide _) (by simp) (by kernel_rfl) (by kernel_rfl) rfl (by kernel_rfl) (fun a w => by go_simp) ?_
   simp only [List.take_succ_cons, List.take_zero, List.drop_succ_cons, List.drop_zero, List.eraseIdx_cons_succ, List.eraseIdx_cons_zero]
   repeat (refine wpQuietB_step (fun K hK => ?_); go_simp; first | (refine hK _ ?_; clear hK K) | (apply Exists.intro; refine ⟨fun z => ?_, hK _ ?_⟩; (go_at_call 72; exact HDO.out z); clear hK K))
   refine wpQuietB_nil ?_
   intro bx z hbx hzx
   have hbc : z.val.cell? ⟨bx, 0, none⟩ = some (.int .i64 0) := (cell_of_row z.val _ 0 _ _ _ hzx).trans rfl
   have hbf : z.val.frozen? ⟨bx, 0, none⟩ = false := by simp [World.frozen?, hzx]
   have hbn : ¬ Works g gh gu gm bx := H.out.notNew (by omega)
   have hWz := HWZ.out z
   have hszz := z.prop.size
   have hbz := lt_of_heap hzx
   have hb1 : ∀ o, z.val.cell? ⟨W3.heap.size, o, none⟩ = W4.cell? ⟨W3.heap.size, o, none⟩ := fun o => z.prop.cell (p := ⟨W3.heap.size, o, none⟩) (by show W3.heap.size < W4.heap.size; omega)
   have e1 : z.val.cell? ⟨W3.heap.size, 1, none⟩ = some (.func (.func 70) #[] #[]) := (hb1 1).trans ((cell_of_row W4 _ 1 _ _ _ hh4).trans rfl)
   have e2 : z.val.cell? ⟨W3.heap.size, 2, none⟩ = some (.func (.func 71) #[] #[]) := (hb1 2).trans ((cell_of_row W4 _ 2 _ _ _ hh4).trans rfl)
   have e3 : z.val.cell? ⟨W3.heap.size, 3, none⟩ = some (.func (.func 65) #[] #[]) := (hb1 3).trans ((cell_of_row W4 _ 3 _ _ _ hh4).trans rfl)
   have e4 : z.val.cell? ⟨W3.heap.size, 4, none⟩ = some (.func (.func 65) #[] #[]) := (hb1 4).trans ((cell_of_row W4 _ 4 _ _ _ hh4).trans rfl)
   have b0z := b0 z
   have b1z := b1 z
   have b2z := B2.out z
   have hd1z := HD1.out z
   have hne0 : w.heap.size ≠ bx := by omega
   have hne1 : w.heap.size + 1 ≠ bx := by omega
   have hne2 : w.heap.size + 2 ≠ bx := by omega
   have hne3 : W3.heap.size ≠ bx := by omega
   have hne4 : D1 ≠ bx := by omega
   clear hb1 hzx b0 b1 B2 HD1 HDO hh4 g0 g1 g2 g3 g4 g5 g6 g7 g8 g9 g10
   gi_wp2_with (refine ⟨trivial, ?_⟩; gi_at_call 68; refine (callsIn_wide.2 (runningSeq_any _ _)).mono ?_; rintro e z2 ⟨rfl, rfl⟩)
   obtain ⟨W5, HW5⟩ : ∃ W5, Hid (W5 = (z.val.setCell ⟨bx, 0, none⟩ (.int .i64 who)).alloc (.cells #[.pointer (some ⟨g, 0, none⟩)] 82)) := ⟨_, rfl⟩
   rw [← HW5.out]
   have hW5 : WorkAt w0 W5 g ⟨⟨vhA, vhc⟩, ⟨vuA, vuc⟩, ⟨some ⟨b, aoff, none⟩, vac⟩, ⟨vkA, vkc⟩, ⟨voA, voc⟩⟩ C ⟨⟨thA, thc⟩, ⟨tuA, tuc⟩, ⟨some ⟨gm, moff, none⟩, tmc⟩⟩ ⟨day, holders, used, ms1⟩ gh gu gm := by
    rw [HW5.out]
    refine (hWz.keepU (S := fun k => k = bx) ((Upd.refl (fun k => k = bx) z.val).setCell (p := ⟨bx, 0, none⟩) (.inl rfl) _) ?_).on (Below.alloc' (Below.refl _ _) _)
    rintro k rfl
    exact ⟨hbn, by have h1 := H.out.below.size; omega⟩
   have hs5 : W5.heap.size = z.val.heap.size + 1 := by rw [HW5.out]; simp [World.setCell]
   have hU5 : Upd (fun k => k = bx) z.val W5 := by
    rw [HW5.out]
    exact ((Upd.refl (fun k => k = bx) z.val).setCell (p := ⟨bx, 0, none⟩) (.inl rfl) _).alloc _
   have x0 := (hU5.cell (o := 0) (by omega) hne0).trans b0z
   have x1 := (hU5.cell (o := 0) (by omega) hne1).trans b1z
   have x2 := (hU5.cell (o := 0) (by omega) hne2).trans b2z
   have q1 := (hU5.cell (o := 1) (by omega) hne3).trans e1
   have q2 := (hU5.cell (o := 2) (by omega) hne3).trans e2
   have q3 := (hU5.cell (o := 3) (by omega) hne3).trans e3
   have q4 := (hU5.cell (o := 4) (by omega) hne3).trans e4
   have hd1 := hU5.keep hd1z hne4
   have x5 : W5.cell? ⟨bx, 0, none⟩ = some (.int .i64 who) := by
    have hb : Below z.val.heap.size (z.val.setCell ⟨bx, 0, none⟩ (.int .i64 who)) W5 := by rw [HW5.out]; exact Below.mono (Below.alloc' (Below.refl _ _) _) (by simp [World.setCell])
    rw [hb.cell (p := ⟨bx, 0, none⟩) hbz]
    exact World.cell?_setCell_same' _ _ _ (by rw [hbc]; rfl)
   have x6 : W5.cell? ⟨z.val.heap.size, 0, none⟩ = some (.pointer (some ⟨g, 0, none⟩)) := by
    have h := heap_alloc_new (z.val.setCell ⟨bx, 0, none⟩ (.int .i64 who)) (.cells #[.pointer (some ⟨g, 0, none⟩)] 82)
    rw [show (z.val.setCell ⟨bx, 0, none⟩ (.int .i64 who)).heap.size = z.val.heap.size by simp [World.setCell], ← HW5.out] at h
    exact (cell_of_row W5 _ 0 _ _ _ h).trans rfl
   have hn5 := H.out.notNew (k := z.val.heap.size) (by omega)
   have hn4 := H.out.notNew (k := W3.heap.size) (by omega)
   clear b0z b1z b2z hd1z e1 e2 e3 e4 hbc hbf hU5 HW5 hWz HWZ HW4 HB4
   refine wpIn_runs (ms0 := ms1) (Bw := z.val.heap.size) (actMark C i who) (fun i' ms j h => actMark_other C i who i' ms j h) (fun i' ms => actMark_len C i who i' ms) (by omega) rfl rfl hW5 x6 (by omega) hn5 ?a2 ?assign2 ?body2 ?done2
   case assign2 =>
    intro l x W K hK
    gi_wp2
    exact hK
   case body2 =>
    as_aux_lemma =>
     intro l x m M W hm hrun hml hmx hW hU
     have hgo : 0 ≤ m.got ∧ m.got ≤ 1000000 := by
      obtain ⟨m', h1, h2, h3⟩ := paused_got (C := C) (act := i) (ms := ms) (j := x) (m := m) (by rw [HP.out]; exact hm)
      rw [h2]
      exact HGO.out m' (List.mem_of_getElem? h1) (by rw [← h3]; exact hrun)
     have hpl := HPL.out
     have y0 := (hU.cell (o := 0) (by omega) hn0).trans x0
     have y1 := (hU.cell (o := 0) (by omega) hn1).trans x1
     have r1 := (hU.cell (o := 1) (by omega) hn4).trans q1
     have r2 := (hU.cell (o := 2) (by omega) hn4).trans q2
     have r3 := (hU.cell (o := 3) (by omega) hn4).trans q3
     have r4 := (hU.cell (o := 4) (by omega) hn4).trans q4
     have y5 := (hU.cell (o := 0) (by omega) hbn).trans x5
     have hsW := hU.size
     have hxl : x < ms.length := by rw [← hpl]; exact (List.getElem?_eq_some_iff.1 hm).1
     have hxc : x < C.clauses.length := by rw [← HL.out]; exact hxl
     obtain ⟨k, hk⟩ : ∃ k, C.clauses[x]? = some k := ⟨C.clauses[x], List.getElem?_eq_getElem hxc⟩
     have hkm := List.mem_of_getElem? hk
     have hki := HKI.out k hkm
     obtain ⟨kb, koff, st, hK, hkb, hkc, _⟩ := hW.con.clause hk
     simp only at hK
     subst hK
     have hkc2 := hkc _ hW.below
     have hkbm : kb ≠ gm := fun e => by have h1 := hW.newM; omega
     obtain ⟨k0, ro2, ac, ne, start, af, gr, bu, fi, pa, re, ⟨vn, vd⟩, un2, tg2, wa⟩ := k
     obtain ⟨stA, stc⟩ := st
     simp only at hki
     obtain ⟨c0, c1, c2, c3, c4, c5, c6, c7, c8, c9, c10, c11, c12, c13, c14, c15⟩ := rw16 hkc2 rfl
     clear hkc2 hkc
     obtain ⟨moff', hmA', hgl', hcell', hfz'⟩ := hW.markAt hmx
     simp only [Option.some.injEq, Addr.mk.injEq, true_and, and_true] at hmA'
     subst hmA'
     obtain ⟨m0, m1, m2, m3, m4⟩ := m
     simp only at hgo
     have d3 : W.cell? ⟨gm, moff + x * 5 + 3, none⟩ = some (.int .i64 m3) := hcell' 3 (by omega)
     clear hcell' hfz'
     have k4 : W.cell? ⟨g, 4, none⟩ = some (.slice (some ⟨kb, koff, none⟩) C.clauses.length vkc) := hW.cell 4
     have k10 : W.cell? ⟨g, 10, none⟩ = some (.slice (some ⟨gm, moff, none⟩) M.length tmc) := hW.cell 10
     have hgW := lt_of_heap hW.head
     obtain ⟨hg1, hg2⟩ := hgo
     obtain ⟨hq1, hq2⟩ := hki
     have HW := Lib.hid hW; clear hW
     have HK := Lib.hid hk; clear hk
     have HMX := Lib.hid hmx; clear hmx
     have x00 : (0 : Int) ≤ (x : Int) := by omega
     have x01 : (x : Int) < (C.clauses.length : Int) := by omega
     have x02 : (x : Int) < (M.length : Int) := by rw [hml, hpl, HL.out]; exact x01
     have HF : Hid (actMark C i who x M = cond ((ac == (i : Int)) && ((k0 == 4) || (m3 == who))) (M.set x (KMark.hit ⟨m0, m1, m2, m3, m4⟩ ⟨k0, ro2, ac, ne, start, af, gr, bu, fi, pa, re, ⟨vn, vd⟩, un2, tg2, wa⟩)) M) := by
      show _ = _
      simp only [actMark, HK.out, HMX.out]
     have l0 : w.heap.size < W.heap.size := by omega
     have l1 : w.heap.size + 1 < W.heap.size := by omega
     have l2 : W3.heap.size < W.heap.size := by omega
     have l3 : bx < W.heap.size := by omega
     have hpm : gm < W.heap.size := hgl'
     clear hd1 x0 x1 x2 q1 q2 q3 q4 x5 x6 hn0 hn1 hn2 hn4 hn5 hW5 hs5 hs4 hs3 hs2 hs1 HB1 hm hrun hml hxl hxc hkm HKI HIN HRO HAR HGO H HA hU hgl hbl hbl2 hia hbn hbx hszz hbz hne0 hne1 hne2 hne3 hne4 HP HPL hpl hd1l hDn1 hD1
     gi_wp2_with fail
     obtain ⟨Wc, HWc⟩ : ∃ Wc, Hid (Wc = W.alloc (.cells #[.int .i64 k0, .int .i64 ro2, .int .i64 ac, .int .i64 ne, .slice stA start.length stc, .int .i64 af, .int .i64 gr, .bool bu, .bool fi, .int .i64 pa, .int .i64 re, .int .i64 vn, .int .i64 vd, .int .i64 un2, .int .i64 tg2, .bool wa] 90)) := ⟨_, rfl⟩
     rw [← HWc.out]
     have HBc : Hid (Below W.heap.size W Wc) := by
      show Below _ _ _
      rw [HWc.out]
      exact Below.alloc' (Below.refl _ _) _
     have HUc : Hid (Upd (Works g gh gu gm) W Wc) := (Upd.refl _ _).on HBc.out
     have HCc : Hid (∀ z : Bl Wc, WorkAt w0 z.val g ⟨⟨vhA, vhc⟩, ⟨vuA, vuc⟩, ⟨some ⟨b, aoff, none⟩, vac⟩, ⟨some ⟨kb, koff, none⟩, vkc⟩, ⟨voA, voc⟩⟩ C ⟨⟨thA, thc⟩, ⟨tuA, tuc⟩, ⟨some ⟨gm, moff, none⟩, tmc⟩⟩ ⟨day, holders, used, M⟩ gh gu gm) := fun z => HW.out.on (Below.step HBc.out z.prop)
     have hkc : ∀ (p o : Nat) (u : Value), p < W.heap.size → W.cell? ⟨p, o, none⟩ = some u → ∀ z : Bl Wc, z.val.cell? ⟨p, o, none⟩ = some u := fun p o u h2 h3 z => ((bcell (Below.step HBc.out z.prop)).1 _ _ h2).trans h3
     have hcn : ∀ (o : Nat) (u : Value), (Array.mk [.int .i64 k0, .int .i64 ro2, .int .i64 ac, .int .i64 ne, .slice stA start.length stc, .int .i64 af, .int .i64 gr, .bool bu, .bool fi, .int .i64 pa, .int .i64 re, .int .i64 vn, .int .i64 vd, .int .i64 un2, .int .i64 tg2, .bool wa])[o]? = some u → ∀ z : Bl Wc, z.val.cell? ⟨W.heap.size, o, none⟩ = some u := fun o u hu z => by
      have h := heap_alloc_new W (.cells #[.int .i64 k0, .int .i64 ro2, .int .i64 ac, .int .i64 ne, .slice stA start.length stc, .int .i64 af, .int .i64 gr, .bool bu, .bool fi, .int .i64 pa, .int .i64 re, .int .i64 vn, .int .i64 vd, .int .i64 un2, .int .i64 tg2, .bool wa] 90)
      rw [← HWc.out] at h
      exact z.cell ((cell_of_row Wc _ o _ _ _ h).trans hu)
     have v0 := hkc _ _ _ l0 y0
     have v1 := hkc _ _ _ l1 y1
     have w1 := hkc _ _ _ l2 r1
     have w2 := hkc _ _ _ l2 r2
     have w3 := hkc _ _ _ l2 r3
     have w4 := hkc _ _ _ l2 r4
     have v5 := hkc _ _ _ l3 y5
     have v6 := hkc _ _ _ hgW k10
     have v7 := hkc _ _ _ hpm d3
     have v8 : ∀ z : Bl Wc, z.val.cell? ⟨W.heap.size, 0, none⟩ = some (.int .i64 k0) := hcn 0 _ rfl
     have v9 : ∀ z : Bl Wc, z.val.cell? ⟨W.heap.size, 2, none⟩ = some (.int .i64 ac) := hcn 2 _ rfl
     clear y0 y1 r1 r2 r3 r4 y5 k10 d3 c0 c1 c2 c3 c4 c5 c6 c7 c8 c9 c10 c11 c12 c13 c14 c15 k4 hkc hcn l0 l1 l2 l3 hpm HWc HBc hsW
     have hkk : k0 = 1 ∨ k0 = 2 ∨ k0 = 3 ∨ k0 = 4 := by omega
     clear hq1 hq2
     cases qa : (ac == (i : Int)) with
     | false =>
      as_aux_lemma =>
       clear hkk
       refine wpIn_region_preB (s := (⟨Wc, Below.refl _ _⟩ : Bl Wc)) 21 (Lax.round _ _) (by simp) (by kernel_rfl) (by kernel_rfl) ?_
       simp only [List.take_succ_cons, List.take_zero, List.drop_succ_cons, List.drop_zero]
       repeat (go_big_quiet_step (fail))
       refine wpQuiet_nil ?_
       rintro _ ⟨z1, rfl⟩
       gi_wp2_with fail
       refine ⟨?_, HUc.out.on z1.prop⟩
       rw [HF.out, qa, Bool.false_and, cond_false]
       exact HCc.out z1
     | true =>
      rcases hkk with rfl | hkk
      · cases qb : (m3 == who) with
        | true =>
         as_aux_lemma =>
          refine wpIn_region_preB (s := (⟨Wc, Below.refl _ _⟩ : Bl Wc)) 21 (Lax.round _ _) (by simp) (by kernel_rfl) (by kernel_rfl) ?_
          simp only [List.take_succ_cons, List.take_zero, List.drop_succ_cons, List.drop_zero]
          repeat (go_big_quiet_step (fail))
          refine wpQuiet_nil ?_
          rintro _ ⟨z1, rfl⟩
          gi_wp2_with fail
          have HC : Hid (∀ z : Bl Wc, Calls Tryz.prog 70 #[.pointer (some ⟨g, 0, none⟩), .int .i64 x] z.val _) := fun z => perform_any (HCc.out z) x _ HMX.out _ HK.out hg1 hg2
          refine wpIn_region_preB (s := z1) 6 (Lax.round _ _) (by simp) (by kernel_rfl) (by kernel_rfl) ?_
          simp only [List.take_succ_cons, List.take_zero, List.drop_succ_cons, List.drop_zero]
          repeat (go_big_quiet_step (fail))
          refine wpQuiet_nil ?_
          rintro _ ⟨z3, rfl⟩
          gi_wp2_with (refine ⟨trivial, ?_⟩; gi_at_call 70; refine (CallsIn.inRound l (callsIn_wide.2 (HC.out z3))).mono ?_; rintro e zc ⟨rfl, hz1, hz2⟩)
          refine ⟨?_, (HUc.out.on z3.prop).trans hz2 (fun _ _ h => h)⟩
          rw [HF.out, qa, qb, Bool.or_true, Bool.and_true, cond_true]
          exact hz1
        | false =>
         as_aux_lemma =>
          refine wpIn_region_preB (s := (⟨Wc, Below.refl _ _⟩ : Bl Wc)) 21 (Lax.round _ _) (by simp) (by kernel_rfl) (by kernel_rfl) ?_
          simp only [List.take_succ_cons, List.take_zero, List.drop_succ_cons, List.drop_zero]
          repeat (go_big_quiet_step (fail))
          refine wpQuiet_nil ?_
          rintro _ ⟨z1, rfl⟩
          gi_wp2_with fail
          refine ⟨?_, HUc.out.on z1.prop⟩
          rw [HF.out, qa, qb, show ((1 : Int) == 4) = false from rfl, Bool.or_false, Bool.and_false, cond_false]
          exact HCc.out z1
      rcases hkk with rfl | hkk
      · cases qb : (m3 == who) with
        | true =>
         as_aux_lemma =>
          refine wpIn_region_preB (s := (⟨Wc, Below.refl _ _⟩ : Bl Wc)) 21 (Lax.round _ _) (by simp) (by kernel_rfl) (by kernel_rfl) ?_
          simp only [List.take_succ_cons, List.take_zero, List.drop_succ_cons, List.drop_zero]
          repeat (go_big_quiet_step (fail))
          refine wpQuiet_nil ?_
          rintro _ ⟨z1, rfl⟩
          gi_wp2_with fail
          have HC : Hid (∀ z : Bl Wc, Calls Tryz.prog 71 #[.pointer (some ⟨g, 0, none⟩), .int .i64 x] z.val _) := fun z => violate_any (HCc.out z) x _ HMX.out
          refine wpIn_region_preB (s := z1) 6 (Lax.round _ _) (by simp) (by kernel_rfl) (by kernel_rfl) ?_
          simp only [List.take_succ_cons, List.take_zero, List.drop_succ_cons, List.drop_zero]
          repeat (go_big_quiet_step (fail))
          refine wpQuiet_nil ?_
          rintro _ ⟨z3, rfl⟩
          gi_wp2_with (refine ⟨trivial, ?_⟩; gi_at_call 71; refine (CallsIn.inRound l (callsIn_wide.2 (HC.out z3))).mono ?_; rintro e zc ⟨rfl, hz1, hz2⟩)
          refine ⟨?_, (HUc.out.on z3.prop).trans hz2 (fun _ _ h => h)⟩
          rw [HF.out, qa, qb, Bool.or_true, Bool.and_true, cond_true]
          exact hz1
        | false =>
         as_aux_lemma =>
          refine wpIn_region_preB (s := (⟨Wc, Below.refl _ _⟩ : Bl Wc)) 21 (Lax.round _ _) (by simp) (by kernel_rfl) (by kernel_rfl) ?_
          simp only [List.take_succ_cons, List.take_zero, List.drop_succ_cons, List.drop_zero]
          repeat (go_big_quiet_step (fail))
          refine wpQuiet_nil ?_
          rintro _ ⟨z1, rfl⟩
          gi_wp2_with fail
          refine ⟨?_, HUc.out.on z1.prop⟩
          rw [HF.out, qa, qb, show ((2 : Int) == 4) = false from rfl, Bool.or_false, Bool.and_false, cond_false]
          exact HCc.out z1
      rcases hkk with rfl | hkk
      · cases qb : (m3 == who) with
        | true =>
         as_aux_lemma =>
          refine wpIn_region_preB (s := (⟨Wc, Below.refl _ _⟩ : Bl Wc)) 21 (Lax.round _ _) (by simp) (by kernel_rfl) (by kernel_rfl) ?_
          simp only [List.take_succ_cons, List.take_zero, List.drop_succ_cons, List.drop_zero]
          repeat (go_big_quiet_step (fail))
          refine wpQuiet_nil ?_
          rintro _ ⟨z1, rfl⟩
          gi_wp2_with fail
          have HC : Hid (∀ z : Bl Wc, Calls Tryz.prog 65 #[.pointer (some ⟨g, 0, none⟩), .int .i64 x] z.val _) := fun z => done_any (HCc.out z) x _ HMX.out
          refine wpIn_region_preB (s := z1) 6 (Lax.round _ _) (by simp) (by kernel_rfl) (by kernel_rfl) ?_
          simp only [List.take_succ_cons, List.take_zero, List.drop_succ_cons, List.drop_zero]
          repeat (go_big_quiet_step (fail))
          refine wpQuiet_nil ?_
          rintro _ ⟨z3, rfl⟩
          gi_wp2_with (refine ⟨trivial, ?_⟩; gi_at_call 65; refine (CallsIn.inRound l (callsIn_wide.2 (HC.out z3))).mono ?_; rintro e zc ⟨rfl, hz1, hz2⟩)
          refine ⟨?_, (HUc.out.on z3.prop).trans hz2 (fun _ _ h => h)⟩
          rw [HF.out, qa, qb, Bool.or_true, Bool.and_true, cond_true]
          exact hz1
        | false =>
         as_aux_lemma =>
          refine wpIn_region_preB (s := (⟨Wc, Below.refl _ _⟩ : Bl Wc)) 21 (Lax.round _ _) (by simp) (by kernel_rfl) (by kernel_rfl) ?_
          simp only [List.take_succ_cons, List.take_zero, List.drop_succ_cons, List.drop_zero]
          repeat (go_big_quiet_step (fail))
          refine wpQuiet_nil ?_
          rintro _ ⟨z1, rfl⟩
          gi_wp2_with fail
          refine ⟨?_, HUc.out.on z1.prop⟩
          rw [HF.out, qa, qb, show ((3 : Int) == 4) = false from rfl, Bool.or_false, Bool.and_false, cond_false]
          exact HCc.out z1
      · subst hkk
        as_aux_lemma =>
         refine wpIn_region_preB (s := (⟨Wc, Below.refl _ _⟩ : Bl Wc)) 21 (Lax.round _ _) (by simp) (by kernel_rfl) (by kernel_rfl) ?_
         simp only [List.take_succ_cons, List.take_zero, List.drop_succ_cons, List.drop_zero]
         repeat (go_big_quiet_step (fail))
         refine wpQuiet_nil ?_
         rintro _ ⟨z1, rfl⟩
         gi_wp2_with fail
         have HC : Hid (∀ z : Bl Wc, Calls Tryz.prog 65 #[.pointer (some ⟨g, 0, none⟩), .int .i64 x] z.val _) := fun z => done_any (HCc.out z) x _ HMX.out
         refine wpIn_region_preB (s := z1) 6 (Lax.round _ _) (by simp) (by kernel_rfl) (by kernel_rfl) ?_
         simp only [List.take_succ_cons, List.take_zero, List.drop_succ_cons, List.drop_zero]
         repeat (go_big_quiet_step (fail))
         refine wpQuiet_nil ?_
         rintro _ ⟨z3, rfl⟩
         gi_wp2_with (refine ⟨trivial, ?_⟩; gi_at_call 65; refine (CallsIn.inRound l (callsIn_wide.2 (HC.out z3))).mono ?_; rintro e zc ⟨rfl, hz1, hz2⟩)
         refine ⟨?_, (HUc.out.on z3.prop).trans hz2 (fun _ _ h => h)⟩
         rw [HF.out, qa, show ((4 : Int) == 4) = true from rfl, Bool.true_or, Bool.and_true, cond_true]
         exact hz1
   case done2 =>
    as_aux_lemma =>
     intro D2 W6 hD2 hW6 hU6 hK2
     generalize hQ : (runsTo ms1 ms1.length).foldl (fun ms i' => actMark C i who i' ms) ms1 = ms2 at hW6
     have HQ : Hid (C.acted i who ms1 = ms2) := hQ
     clear hQ
     have HQL : Hid (ms2.length = C.clauses.length) := by
      show _ = _
      rw [← HQ.out, acted_len, HPL.out, HL.out]
     have y0 := (hU6.cell (o := 0) (by omega) hn0).trans x0
     have y1 := (hU6.cell (o := 0) (by omega) hn1).trans x1
     have y2 := (hU6.cell (o := 0) (by omega) hn2).trans x2
     have hd2 := hU6.keep hd1 hDn1
     have hDn2 : ¬ Works g gh gu gm D2 := H.out.notNew (by omega)
     have hs6 := hU6.size
     have hD12 : D1 < D2 := by omega
     have HU6 := Lib.hid hU6; clear hU6
     have HW6 := Lib.hid hW6; clear hW6
     have hwW : w.heap.size ≤ W6.heap.size := by omega
     have hw0 : w0.heap.size ≤ w.heap.size := H.out.below.size
     have HST := Lib.hid (start_any HW6.out HQL.out HIN.out HRO.out)
     clear x0 x1 x2 q1 q2 q3 q4 x5 x6 hW5
     gi_wp2_with (refine ⟨trivial, ?_⟩; gi_at_call 69; refine (callsIn_wide.2 HST.out).mono ?_; rintro e zc ⟨rfl, hz1, hz2⟩)
     have hU8 : Upd (Works g gh gu gm) W6 zc := hz2
     have hKa := hU8.keep hK2 hDn2
     have hKb := hU8.keep hd2 hDn1
     have hgr1 := grownBy_putObj' zc D2 (.deferred none)
     have hKc := (hgr1.block D1 (lt_of_heap hKb) (by simp; omega)).trans hKb
     have hgr2 := grownBy_putObj' (zc.putObj D2 (.deferred none)) D1 (.deferred none)
     refine ⟨by simp, .inl ⟨_, _, rfl, run_takeDeferred hKa, ?_⟩⟩
     refine ⟨by simp, .inl ⟨_, _, rfl, run_takeDeferred hKc, ?_⟩⟩
     have hr1 : ∀ r, some D2 = some r → w0.heap.size ≤ r ∧ ∃ o, zc.heap[r]? = some o ∧ o.isCells = false := fun r e => by
      injection e with e
      subst e
      exact ⟨by omega, _, hKa, rfl⟩
     have hr2 : ∀ r, some D1 = some r → w0.heap.size ≤ r ∧ ∃ o, (zc.putObj D2 (.deferred none)).heap[r]? = some o ∧ o.isCells = false := fun r e => by
      injection e with e
      subst e
      exact ⟨by omega, _, hKc, rfl⟩
     have h8 := WorkAt.ownFrom (β := Unit) (fun _ => (⟨day, holders, used, C.begin holders ms2⟩ : KState)) _ (Nat.le_refl _) () zc _ _ hz1 hgr1 hr1
     have h9 := WorkAt.ownFrom (β := Unit) (fun _ => (⟨day, holders, used, C.begin holders ms2⟩ : KState)) _ (Nat.le_refl _) () _ _ _ h8 hgr2 hr2
     refine ⟨_, results_none rfl _ _ _, rfl, ?_, Nat.le_trans (Nat.le_trans (Nat.le_trans hwW hU8.size) hgr1.size) hgr2.size⟩
     simp only [KCon.act, show ((1 : Int) != 1) = false from rfl, Bool.false_and, cond_false, HP.out, HBY.out, HQ.out]
     exact h9
end Go.Proofs.YtaielhafpmjkaaaGreatDoor
