/-
  Tick1
-/
import Derived.Laws.EntriesVeiled
import Derived.Test.YtaielhafpmjkaaaGreatDoorQ21
namespace Go.Proofs.YtaielhafpmjkaaaGreatDoor
open Go.RowKit Go.Shelf
attribute [local go_sem] Oper.semAt_some quietB quietUponB
theorem WorkAt.keepU {S : Nat → Prop} {w0 w w' : World} {g : Nat} {v : CV} {C : KCon} {t : TV} {s : KState} {gh gu gm : Nat} (h : WorkAt w0 w g v C t s gh gu gm) (hu : Upd S w w') (hS : ∀ k, S k → ¬ Works g gh gu gm k ∧ w0.heap.size ≤ k) : WorkAt w0 w' g v C t s gh gu gm :=
 ⟨hu.keep h.head (fun e => (hS _ e).1 (.inl rfl)), h.con, h.below.trans (hu.below h.below.size (fun k hk => (hS k hk).2)),
  h.holders.keep hu (fun k hk e => by injection hk with hk; subst hk; exact (hS _ e).1 (.inr (.inl rfl))),
  h.used.keep hu (fun k hk e => by injection hk with hk; subst hk; exact (hS _ e).1 (.inr (.inr (.inl rfl)))),
  h.marks.keep hu (fun k hk e => by injection hk with hk; subst hk; exact (hS _ e).1 (.inr (.inr (.inr rfl)))), h.newG, h.newH, h.newU, h.newM⟩
set_option maxRecDepth 100000 in
set_option maxHeartbeats 4000000 in
theorem tick_any {w0 w : World} {g : Nat} {v : CV} {C : KCon} {t : TV} {s : KState} {gh gu gm : Nat} (h : WorkAt w0 w g v C t s gh gu gm) (hlen : s.marks.length = C.clauses.length)
 (hin : ∀ k ∈ C.clauses, ∀ c ∈ k.start, 0 ≤ c.clause ∧ c.clause < C.clauses.length) (hro : ∀ k ∈ C.clauses, k.kind ≠ 4 → 0 ≤ k.role ∧ k.role < s.holders.length)
 (hki : ∀ k ∈ C.clauses, 1 ≤ k.kind ∧ k.kind ≤ 4) (hof : C.off.Pairwise (· ≤ ·)) (hol : C.off.length < 4611686018427387904) (hd0 : 0 ≤ s.day) (hd1 : s.day ≤ 1000000) (hle : ∀ m ∈ s.marks, m.runs = true → 1 ≤ m.left ∧ m.left ≤ 1000000) :
 Calls Tryz.prog 48 #[.pointer (some ⟨g, 0, none⟩)] w (WorkPost w0 g v C t (C.tick s) gh gu gm w) := by
 obtain ⟨⟨vhA, vhc⟩, ⟨vuA, vuc⟩, ⟨vaA, vac⟩, ⟨vkA, vkc⟩, ⟨voA, voc⟩⟩ := v
 obtain ⟨moff, hmA, _⟩ := h.marks.at0
 obtain ⟨⟨thA, thc⟩, ⟨tuA, tuc⟩, ⟨tmA, tmc⟩⟩ := t
 simp only at hmA
 subst hmA
 obtain ⟨day, holders, used, ms⟩ := s
 simp only at hlen hro hd0 hd1 hle
 have g6 : w.cell? ⟨g, 6, none⟩ = some (.slice voA C.off.length voc) := h.cell 6
 have g7 : w.cell? ⟨g, 7, none⟩ = some (.int .i64 day) := h.cell 7
 have hgl := lt_of_heap h.head
 have hoffAt := h.con.off
 have H := Lib.hid h; clear h
 have HL := Lib.hid hlen; clear hlen
 have HIN := Lib.hid hin; clear hin
 have HRO := Lib.hid hro; clear hro
 have HKI := Lib.hid hki; clear hki
 have HOF := Lib.hid hof; clear hof
 have HLE := Lib.hid hle; clear hle
 have HOA := Lib.hid hoffAt; clear hoffAt
 refine (callsIn_wide (n := 3)).1 ?_
 refine callsIn_of_wp_marks Tryz.func48 rfl trivial ?_ rfl
 simp only [Tryz.ntmps48, List.size_toArray, List.length_cons, List.length_nil, Nat.reduceAdd, Nat.reduceSub, Array.replicate_succ, Array.replicate_zero, List.push_toArray, List.append_toArray, List.nil_append, List.cons_append]
 gi_wp2
 obtain ⟨W0, HW0⟩ : ∃ W0, Hid (W0 = (w.alloc (.cells #[.pointer (some ⟨g, 0, none⟩)] 82)).alloc (.cells #[.nilFunc, .func (.func 64) #[] #[], .func (.func 65) #[] #[], .func (.func 66) #[] #[], .func (.func 66) #[] #[]] 99)) := ⟨_, rfl⟩
 have hh0 : W0.heap[w.heap.size]? = some (.cells #[.pointer (some ⟨g, 0, none⟩)] 82 (0, 0)) := by
  rw [HW0.out]
  exact (Below.heap_alloc _ _ _ (by simp)).trans (heap_alloc_new w _)
 have HB0 : Hid (Below w.heap.size w W0) := by
  show Below _ _ _
  rw [HW0.out]
  exact Below.alloc' (Below.alloc' (Below.refl _ _) _) _
 have hs0 : W0.heap.size = w.heap.size + 2 := by rw [HW0.out]; simp
 have hh1 : W0.heap[w.heap.size + 1]? = some (.cells #[.nilFunc, .func (.func 64) #[] #[], .func (.func 65) #[] #[], .func (.func 66) #[] #[], .func (.func 66) #[] #[]] 99 (0, 0)) := by
  rw [HW0.out]
  have h := heap_alloc_new (w.alloc (.cells #[.pointer (some ⟨g, 0, none⟩)] 82)) (.cells #[.nilFunc, .func (.func 64) #[] #[], .func (.func 65) #[] #[], .func (.func 66) #[] #[], .func (.func 66) #[] #[]] 99)
  rw [World.size_alloc] at h
  exact h
 rw [← HW0.out]
 have HWZ : Hid (∀ z : Bl W0, WorkAt w0 z.val g ⟨⟨vhA, vhc⟩, ⟨vuA, vuc⟩, ⟨vaA, vac⟩, ⟨vkA, vkc⟩, ⟨voA, voc⟩⟩ C ⟨⟨thA, thc⟩, ⟨tuA, tuc⟩, ⟨some ⟨gm, moff, none⟩, tmc⟩⟩ ⟨day, holders, used, ms⟩ gh gu gm) := fun z => H.out.on (Below.step HB0.out z.prop)
 have b0 : ∀ z : Bl W0, z.val.cell? ⟨w.heap.size, 0, none⟩ = some (.pointer (some ⟨g, 0, none⟩)) := fun z => z.cell ((cell_of_row W0 _ 0 _ _ _ hh0).trans rfl)
 have g6' : ∀ z : Bl W0, z.val.cell? ⟨g, 6, none⟩ = some (.slice voA C.off.length voc) := fun z => (HWZ.out z).cell 6
 have g7' : ∀ z : Bl W0, z.val.cell? ⟨g, 7, none⟩ = some (.int .i64 day) := fun z => (HWZ.out z).cell 7
 have HSE : Hid (∀ z : Bl W0, Calls Tryz.prog 67 #[.slice voA C.off.length voc, .int .i64 day] z.val (RetB (.tuple #[.int .i64 (C.off.countP (· < day) : Nat), .bool (C.off.contains day)]) z.val)) := fun z =>
  search_any (HOA.out.below (by omega) ((HWZ.out z).below)) HOF.out hol day
 generalize hfr : C.off.contains day = free at HSE
 generalize hcn : C.off.countP (· < day) = cnt at HSE
 have HFR := Lib.hid hfr; clear hfr hcn
 clear g6 g7
 refine wpIn_region_float (s := (⟨W0, Below.refl _ _⟩ : Bl W0)) 16 14 _ (.cells #[.bool false] 4) (Lax.wide _) (by simp) (by kernel_rfl) (by kernel_rfl) rfl (by kernel_rfl) (fun a w => by go_simp) ?_
 simp only [List.take_succ_cons, List.take_zero, List.drop_succ_cons, List.drop_zero, List.eraseIdx_cons_succ, List.eraseIdx_cons_zero]
 repeat (refine wpQuietB_step (fun K hK => ?_); go_simp; first | (refine hK _ ?_; clear hK K) | (apply Exists.intro; refine ⟨fun z => ?_, hK _ ?_⟩; (go_at_call 67; exact HSE.out z); clear hK K))
 refine wpQuietB_nil ?_
 intro bx z hbx hzx
 have hbc : z.val.cell? ⟨bx, 0, none⟩ = some (.bool false) := (cell_of_row z.val _ 0 _ _ _ hzx).trans rfl
 have hbf : z.val.frozen? ⟨bx, 0, none⟩ = false := by simp [World.frozen?, hzx]
 have hbn : ¬ Works g gh gu gm bx := H.out.notNew (by omega)
 have hWz := HWZ.out z
 have hszz := z.prop.size
 have hbz := lt_of_heap hzx
 have hb1 : ∀ o, z.val.cell? ⟨w.heap.size + 1, o, none⟩ = W0.cell? ⟨w.heap.size + 1, o, none⟩ := fun o => z.prop.cell (p := ⟨w.heap.size + 1, o, none⟩) (by show w.heap.size + 1 < W0.heap.size; omega)
 have e1 : z.val.cell? ⟨w.heap.size + 1, 1, none⟩ = some (.func (.func 64) #[] #[]) := (hb1 1).trans ((cell_of_row W0 _ 1 _ _ _ hh1).trans rfl)
 have e2 : z.val.cell? ⟨w.heap.size + 1, 2, none⟩ = some (.func (.func 65) #[] #[]) := (hb1 2).trans ((cell_of_row W0 _ 2 _ _ _ hh1).trans rfl)
 have e3 : z.val.cell? ⟨w.heap.size + 1, 3, none⟩ = some (.func (.func 66) #[] #[]) := (hb1 3).trans ((cell_of_row W0 _ 3 _ _ _ hh1).trans rfl)
 have e4 : z.val.cell? ⟨w.heap.size + 1, 4, none⟩ = some (.func (.func 66) #[] #[]) := (hb1 4).trans ((cell_of_row W0 _ 4 _ _ _ hh1).trans rfl)
 have b0z := b0 z
 have hne0 : w.heap.size ≠ bx := by omega
 have hne1 : w.heap.size + 1 ≠ bx := by omega
 clear hb1 hzx g6' g7' b0 HSE hh0 hh1 HOA
 gi_wp2_with (refine ⟨trivial, ?_⟩; gi_at_call 68; refine (callsIn_wide.2 (runningSeq_any _ _)).mono ?_; rintro e z2 ⟨rfl, rfl⟩)
 obtain ⟨W2, HW2⟩ : ∃ W2, Hid (W2 = (z.val.setCell ⟨bx, 0, none⟩ (.bool free)).alloc (.cells #[.pointer (some ⟨g, 0, none⟩)] 82)) := ⟨_, rfl⟩
 rw [← HW2.out]
 have hW2 : WorkAt w0 W2 g ⟨⟨vhA, vhc⟩, ⟨vuA, vuc⟩, ⟨vaA, vac⟩, ⟨vkA, vkc⟩, ⟨voA, voc⟩⟩ C ⟨⟨thA, thc⟩, ⟨tuA, tuc⟩, ⟨some ⟨gm, moff, none⟩, tmc⟩⟩ ⟨day, holders, used, ms⟩ gh gu gm := by
  rw [HW2.out]
  refine (hWz.keepU (S := fun k => k = bx) ((Upd.refl (fun k => k = bx) z.val).setCell (p := ⟨bx, 0, none⟩) (.inl rfl) _) ?_).on (Below.alloc' (Below.refl _ _) _)
  rintro k rfl
  exact ⟨hbn, by have h1 := H.out.below.size; omega⟩
 have hs2 : W2.heap.size = z.val.heap.size + 1 := by rw [HW2.out]; simp [World.setCell]
 have hk2 : ∀ (p o : Nat) (u : Value), p ≠ bx → p < z.val.heap.size → z.val.cell? ⟨p, o, none⟩ = some u → W2.cell? ⟨p, o, none⟩ = some u := fun p o u h1 h2 h3 => by
  have hb : Below z.val.heap.size (z.val.setCell ⟨bx, 0, none⟩ (.bool free)) W2 := by rw [HW2.out]; exact Below.mono (Below.alloc' (Below.refl _ _) _) (by simp [World.setCell])
  rw [hb.cell (p := ⟨p, o, none⟩) h2, World.cell?_setCell_other _ _ _ _ (fun e => h1 (by first | exact congrArg Addr.block e | exact (congrArg Addr.block e).symm))]
  exact h3
 have x0 := hk2 _ _ _ hne0 (by omega) b0z
 have x1 := hk2 _ _ _ hne1 (by omega) e1
 have x2 := hk2 _ _ _ hne1 (by omega) e2
 have x3 := hk2 _ _ _ hne1 (by omega) e3
 have x4 := hk2 _ _ _ hne1 (by omega) e4
 have x5 : W2.cell? ⟨bx, 0, none⟩ = some (.bool free) := by
  have hb : Below z.val.heap.size (z.val.setCell ⟨bx, 0, none⟩ (.bool free)) W2 := by rw [HW2.out]; exact Below.mono (Below.alloc' (Below.refl _ _) _) (by simp [World.setCell])
  rw [hb.cell (p := ⟨bx, 0, none⟩) hbz]
  exact World.cell?_setCell_same' _ _ _ (by rw [hbc]; rfl)
 have x6 : W2.cell? ⟨z.val.heap.size, 0, none⟩ = some (.pointer (some ⟨g, 0, none⟩)) := by
  have h := heap_alloc_new (z.val.setCell ⟨bx, 0, none⟩ (.bool free)) (.cells #[.pointer (some ⟨g, 0, none⟩)] 82)
  rw [show (z.val.setCell ⟨bx, 0, none⟩ (.bool free)).heap.size = z.val.heap.size by simp [World.setCell], ← HW2.out] at h
  exact (cell_of_row W2 _ 0 _ _ _ h).trans rfl
 have hn0 := H.out.notNew (k := w.heap.size) (Nat.le_refl _)
 have hn1 := H.out.notNew (k := w.heap.size + 1) (by omega)
 have hn2 := H.out.notNew (k := z.val.heap.size) (by omega)
 have hol2 : W0.heap.size ≤ W2.heap.size := by omega
 clear hk2 b0z e1 e2 e3 e4 hbc hbf
 refine wpIn_runs (ms0 := ms) (tickMark C free) (fun i ms j h => tickMark_other C free i ms j h) (fun i ms => tickMark_len C free i ms) (by omega) rfl rfl hW2 x6 (by omega) hn2 ?a1 ?assign ?body ?done
 case assign =>
  intro l x W K hK
  gi_wp2
  exact hK
 case body =>
  as_aux_lemma =>
   intro l x m M W hm hrun hml hmx hW hU
   have hxl : x < ms.length := (List.getElem?_eq_some_iff.1 hm).1
   have hxc : x < C.clauses.length := by rw [← HL.out]; exact hxl
   obtain ⟨k, hk⟩ : ∃ k, C.clauses[x]? = some k := ⟨C.clauses[x], List.getElem?_eq_getElem hxc⟩
   have hkm := List.mem_of_getElem? hk
   have hki := HKI.out k hkm
   have hle := HLE.out m (List.mem_of_getElem? hm) hrun
   have y0 := (hU.cell (o := 0) (by omega) hn0).trans x0
   have y1 := (hU.cell (o := 1) (by omega) hn1).trans x1
   have y2 := (hU.cell (o := 2) (by omega) hn1).trans x2
   have y3 := (hU.cell (o := 3) (by omega) hn1).trans x3
   have y4 := (hU.cell (o := 4) (by omega) hn1).trans x4
   have y5 := (hU.cell (o := 0) (by omega) hbn).trans x5
   have hsW := hU.size
   have l0 : w.heap.size < W.heap.size := by omega
   have l1 : w.heap.size + 1 < W.heap.size := by omega
   have l2 : bx < W.heap.size := by omega
   have nm0 : w.heap.size ≠ gm := fun e => hn0 (.inr (.inr (.inr e)))
   have nm1 : w.heap.size + 1 ≠ gm := fun e => hn1 (.inr (.inr (.inr e)))
   have nm2 : bx ≠ gm := fun e => hbn (.inr (.inr (.inr e)))
   have nm3 : g ≠ gm := hW.gm_ne
   obtain ⟨kb, koff, st, hK, hkb, hkc, _⟩ := hW.con.clause hk
   simp only at hK
   subst hK
   have hkc2 := hkc _ hW.below
   have hkbm : kb ≠ gm := fun e => by have h1 := hW.newM; omega
   obtain ⟨ki, ro, ac, ne, start, af, gr, bu, fi, pa, re, ⟨vn, vd⟩, un, tg, wa⟩ := k
   obtain ⟨stA, stc⟩ := st
   simp only at hki
   obtain ⟨c0, c1, c2, c3, c4, c5, c6, c7, c8, c9, c10, c11, c12, c13, c14, c15⟩ := rw16 hkc2 rfl
   clear hkc2 hkc
   obtain ⟨moff', hmA', hgl', hcell', hfz'⟩ := hW.markAt hmx
   simp only [Option.some.injEq, Addr.mk.injEq, true_and, and_true] at hmA'
   subst hmA'
   obtain ⟨m0, m1, m2, m3, m4⟩ := m
   simp only at hle
   have d1 : W.cell? ⟨gm, moff + x * 5 + 1, none⟩ = some (.int .i64 m1) := hcell' 1 (by omega)
   have d4 : W.cell? ⟨gm, moff + x * 5 + 4, none⟩ = some (.bool m4) := hcell' 4 (by omega)
   have f1 := hfz' (moff + x * 5 + 1)
   clear hcell' hfz'
   have k4 : W.cell? ⟨g, 4, none⟩ = some (.slice (some ⟨kb, koff, none⟩) C.clauses.length vkc) := hW.cell 4
   have k10 : W.cell? ⟨g, 10, none⟩ = some (.slice (some ⟨gm, moff, none⟩) M.length tmc) := hW.cell 10
   have hgW := lt_of_heap hW.head
   obtain ⟨hl1, hl2⟩ := hle
   obtain ⟨hq1, hq2⟩ := hki
   have HW := Lib.hid hW; clear hW
   have HU := Lib.hid hU; clear hU
   have HK := Lib.hid hk; clear hk
   have HMX := Lib.hid hmx; clear hmx
   have x00 : (0 : Int) ≤ (x : Int) := by omega
   have x01 : (x : Int) < (C.clauses.length : Int) := by omega
   have x02 : (x : Int) < (M.length : Int) := by rw [hml, HL.out]; exact x01
   have HF : Hid (tickMark C free x M = cond (m4 || (bu && free)) M (M.set x (KMark.aged ⟨m0, m1, m2, m3, m4⟩ ⟨ki, ro, ac, ne, start, af, gr, bu, fi, pa, re, ⟨vn, vd⟩, un, tg, wa⟩))) := by
    show _ = _
    simp only [tickMark, HK.out, HMX.out]
   clear HW2 HW0 HB0 hs0 HWZ hbx hbn hszz hbz hne0 hne1 hW2 hs2 x0 x1 x2 x3 x4 x5 x6 hn0 hn1 hn2 hol2 hm hrun hml hxl hxc hkm HKI HLE hWz HOF hol HIN HRO hd0 hd1 HFR H
   cases m4 with
   | true =>
    as_aux_lemma =>
     gi_wp2_with fail
     refine ⟨?_, (Upd.refl _ _).alloc _⟩
     rw [HF.out]
     exact HW.out.on (Below.alloc' (Below.refl _ _) _)
   | false =>
    cases bu with
    | false =>
     as_aux_lemma =>
      gi_wp2_with fail
      · rename_i hz
        obtain ⟨Wc, HWc⟩ : ∃ Wc, Hid (Wc = (W.setCell ⟨gm, moff + x * 5 + 1, none⟩ (.int .i64 (m1 - 1))).alloc (.cells #[.int .i64 ki, .int .i64 ro, .int .i64 ac, .int .i64 ne, .slice stA start.length stc, .int .i64 af, .int .i64 gr, .bool false, .bool fi, .int .i64 pa, .int .i64 re, .int .i64 vn, .int .i64 vd, .int .i64 un, .int .i64 tg, .bool wa] 90)) := ⟨_, rfl⟩
        rw [← HWc.out]
        have hWc : WorkAt w0 Wc g ⟨⟨vhA, vhc⟩, ⟨vuA, vuc⟩, ⟨vaA, vac⟩, ⟨some ⟨kb, koff, none⟩, vkc⟩, ⟨voA, voc⟩⟩ C ⟨⟨thA, thc⟩, ⟨tuA, tuc⟩, ⟨some ⟨gm, moff, none⟩, tmc⟩⟩ ⟨day, holders, used, M.set x ⟨m0, m1 - 1, m2, m3, false⟩⟩ gh gu gm := by
         rw [HWc.out]
         exact (HW.out.markCell (j := 1) (m' := ⟨m0, m1 - 1, m2, m3, false⟩) HMX.out (by omega) rfl).on (Below.alloc' (Below.refl _ _) _)
        have HUc : Hid (Upd (Works g gh gu gm) W Wc) := by
         show Upd _ _ _
         rw [HWc.out]
         exact ((Upd.refl _ _).setCell (.inl (.inr (.inr (.inr rfl)))) _).alloc _
        have hkc : ∀ (p o : Nat) (u : Value), p ≠ gm → p < W.heap.size → W.cell? ⟨p, o, none⟩ = some u → Wc.cell? ⟨p, o, none⟩ = some u := fun p o u h1 h2 h3 => by
         have hb : Below W.heap.size (W.setCell ⟨gm, moff + x * 5 + 1, none⟩ (.int .i64 (m1 - 1))) Wc := by rw [HWc.out]; exact Below.mono (Below.alloc' (Below.refl _ _) _) (by simp [World.setCell])
         rw [hb.cell (p := ⟨p, o, none⟩) h2, World.cell?_setCell_other _ _ _ _ (fun e => h1 (by first | exact congrArg Addr.block e | exact (congrArg Addr.block e).symm))]
         exact h3
        have v0 := hkc _ _ _ nm0 l0 y0
        have v1 := hkc _ _ _ nm1 l1 y1
        have v2 := hkc _ _ _ nm1 l1 y2
        have v3 := hkc _ _ _ nm1 l1 y3
        have v4 := hkc _ _ _ nm1 l1 y4
        have v5 : Wc.cell? ⟨W.heap.size, 0, none⟩ = some (.int .i64 ki) := by
         have h := heap_alloc_new (W.setCell ⟨gm, moff + x * 5 + 1, none⟩ (.int .i64 (m1 - 1))) (.cells #[.int .i64 ki, .int .i64 ro, .int .i64 ac, .int .i64 ne, .slice stA start.length stc, .int .i64 af, .int .i64 gr, .bool false, .bool fi, .int .i64 pa, .int .i64 re, .int .i64 vn, .int .i64 vd, .int .i64 un, .int .i64 tg, .bool wa] 90)
         rw [show (W.setCell ⟨gm, moff + x * 5 + 1, none⟩ (.int .i64 (m1 - 1))).heap.size = W.heap.size by simp [World.setCell], ← HWc.out] at h
         exact (cell_of_row Wc _ 0 _ _ _ h).trans rfl
        have HCc := Lib.hid hWc; clear hWc
        have hmc : (M.set x ⟨m0, m1 - 1, m2, m3, false⟩)[x]? = some ⟨m0, m1 - 1, m2, m3, false⟩ := by rw [List.getElem?_set_self (List.getElem?_eq_some_iff.1 HMX.out).1]
        have HMC := Lib.hid hmc; clear hmc
        clear y0 y1 y2 y3 y4 y5 c0 c1 c2 c3 c4 c5 c6 c7 c8 c9 c10 c11 c12 c13 c14 c15 d1 d4 f1 k4 k10 hkc l0 l1 l2 nm0 nm1 nm2 nm3
        have hkk : ki = 1 ∨ ki = 2 ∨ ki = 3 ∨ ki = 4 := by omega
        clear hq1 hq2
        rcases hkk with rfl | hkk
        · have hc : ∀ mq, Calls Tryz.prog 64 #[.pointer (some ⟨g, 0, none⟩), .int .i64 x] (Wc.drewN mq) _ := fun mq => expire_any (HCc.out.keep ((Upd.refl _ _).drewN mq)) x _ HMC.out _ HK.out
          have HC := Lib.hid hc; clear hc
          refine wpIn_region_preN 6 (Lax.round _ _) (by simp) (by kernel_rfl) (by kernel_rfl) ?_
          simp only [List.take_succ_cons, List.take_zero, List.drop_succ_cons, List.drop_zero]
          repeat (go_big_quiet_step (fail))
          refine wpQuiet_nil ?_
          rintro _ ⟨mq, rfl⟩
          gi_wp2_with (refine ⟨trivial, ?_⟩; gi_at_call 64; refine (CallsIn.inRound l (callsIn_wide.2 (HC.out mq))).mono ?_; rintro e zc ⟨rfl, hz1, hz2⟩)
          refine ⟨?_, (HUc.out.drewN mq).trans hz2 (fun _ _ h => h)⟩
          rw [HF.out]
          simp only [List.set_set] at hz1
          simp only [KMark.aged, hz, cond_true, KMark.due]
          exact hz1
        rcases hkk with rfl | hkk
        · have hc : ∀ mq, Calls Tryz.prog 65 #[.pointer (some ⟨g, 0, none⟩), .int .i64 x] (Wc.drewN mq) _ := fun mq => done_any (HCc.out.keep ((Upd.refl _ _).drewN mq)) x _ HMC.out
          have HC := Lib.hid hc; clear hc
          refine wpIn_region_preN 6 (Lax.round _ _) (by simp) (by kernel_rfl) (by kernel_rfl) ?_
          simp only [List.take_succ_cons, List.take_zero, List.drop_succ_cons, List.drop_zero]
          repeat (go_big_quiet_step (fail))
          refine wpQuiet_nil ?_
          rintro _ ⟨mq, rfl⟩
          gi_wp2_with (refine ⟨trivial, ?_⟩; gi_at_call 65; refine (CallsIn.inRound l (callsIn_wide.2 (HC.out mq))).mono ?_; rintro e zc ⟨rfl, hz1, hz2⟩)
          refine ⟨?_, (HUc.out.drewN mq).trans hz2 (fun _ _ h => h)⟩
          rw [HF.out]
          simp only [List.set_set] at hz1
          simp only [KMark.aged, hz, cond_true, KMark.due]
          exact hz1
        rcases hkk with rfl | hkk
        · have hc : ∀ mq, Calls Tryz.prog 66 #[.pointer (some ⟨g, 0, none⟩), .int .i64 x] (Wc.drewN mq) _ := fun mq => lapse_any (HCc.out.keep ((Upd.refl _ _).drewN mq)) x _ HMC.out
          have HC := Lib.hid hc; clear hc
          refine wpIn_region_preN 6 (Lax.round _ _) (by simp) (by kernel_rfl) (by kernel_rfl) ?_
          simp only [List.take_succ_cons, List.take_zero, List.drop_succ_cons, List.drop_zero]
          repeat (go_big_quiet_step (fail))
          refine wpQuiet_nil ?_
          rintro _ ⟨mq, rfl⟩
          gi_wp2_with (refine ⟨trivial, ?_⟩; gi_at_call 66; refine (CallsIn.inRound l (callsIn_wide.2 (HC.out mq))).mono ?_; rintro e zc ⟨rfl, hz1, hz2⟩)
          refine ⟨?_, (HUc.out.drewN mq).trans hz2 (fun _ _ h => h)⟩
          rw [HF.out]
          simp only [List.set_set] at hz1
          simp only [KMark.aged, hz, cond_true, KMark.due]
          exact hz1
        · subst hkk
          have hc : ∀ mq, Calls Tryz.prog 66 #[.pointer (some ⟨g, 0, none⟩), .int .i64 x] (Wc.drewN mq) _ := fun mq => lapse_any (HCc.out.keep ((Upd.refl _ _).drewN mq)) x _ HMC.out
          have HC := Lib.hid hc; clear hc
          refine wpIn_region_preN 6 (Lax.round _ _) (by simp) (by kernel_rfl) (by kernel_rfl) ?_
          simp only [List.take_succ_cons, List.take_zero, List.drop_succ_cons, List.drop_zero]
          repeat (go_big_quiet_step (fail))
          refine wpQuiet_nil ?_
          rintro _ ⟨mq, rfl⟩
          gi_wp2_with (refine ⟨trivial, ?_⟩; gi_at_call 66; refine (CallsIn.inRound l (callsIn_wide.2 (HC.out mq))).mono ?_; rintro e zc ⟨rfl, hz1, hz2⟩)
          refine ⟨?_, (HUc.out.drewN mq).trans hz2 (fun _ _ h => h)⟩
          rw [HF.out]
          simp only [List.set_set] at hz1
          simp only [KMark.aged, hz, cond_true, KMark.due]
          exact hz1
      · rename_i hz
        refine ⟨?_, ((Upd.refl _ _).setCell (.inl (.inr (.inr (.inr rfl)))) _).alloc _⟩
        rw [HF.out]
        simp only [KMark.aged, hz, cond_false]
        exact (HW.out.markCell (j := 1) (m' := ⟨m0, m1 - 1, m2, m3, false⟩) HMX.out (by omega) rfl).on (Below.alloc' (Below.refl _ _) _)
    | true =>
     cases free with
     | true =>
      as_aux_lemma =>
       gi_wp2_with fail
       refine ⟨?_, (Upd.refl _ _).alloc _⟩
       rw [HF.out]
       exact HW.out.on (Below.alloc' (Below.refl _ _) _)
     | false =>
      as_aux_lemma =>
       gi_wp2_with fail
       · rename_i hz
         obtain ⟨Wc, HWc⟩ : ∃ Wc, Hid (Wc = (W.setCell ⟨gm, moff + x * 5 + 1, none⟩ (.int .i64 (m1 - 1))).alloc (.cells #[.int .i64 ki, .int .i64 ro, .int .i64 ac, .int .i64 ne, .slice stA start.length stc, .int .i64 af, .int .i64 gr, .bool true, .bool fi, .int .i64 pa, .int .i64 re, .int .i64 vn, .int .i64 vd, .int .i64 un, .int .i64 tg, .bool wa] 90)) := ⟨_, rfl⟩
         rw [← HWc.out]
         have hWc : WorkAt w0 Wc g ⟨⟨vhA, vhc⟩, ⟨vuA, vuc⟩, ⟨vaA, vac⟩, ⟨some ⟨kb, koff, none⟩, vkc⟩, ⟨voA, voc⟩⟩ C ⟨⟨thA, thc⟩, ⟨tuA, tuc⟩, ⟨some ⟨gm, moff, none⟩, tmc⟩⟩ ⟨day, holders, used, M.set x ⟨m0, m1 - 1, m2, m3, false⟩⟩ gh gu gm := by
          rw [HWc.out]
          exact (HW.out.markCell (j := 1) (m' := ⟨m0, m1 - 1, m2, m3, false⟩) HMX.out (by omega) rfl).on (Below.alloc' (Below.refl _ _) _)
         have HUc : Hid (Upd (Works g gh gu gm) W Wc) := by
          show Upd _ _ _
          rw [HWc.out]
          exact ((Upd.refl _ _).setCell (.inl (.inr (.inr (.inr rfl)))) _).alloc _
         have hkc : ∀ (p o : Nat) (u : Value), p ≠ gm → p < W.heap.size → W.cell? ⟨p, o, none⟩ = some u → Wc.cell? ⟨p, o, none⟩ = some u := fun p o u h1 h2 h3 => by
          have hb : Below W.heap.size (W.setCell ⟨gm, moff + x * 5 + 1, none⟩ (.int .i64 (m1 - 1))) Wc := by rw [HWc.out]; exact Below.mono (Below.alloc' (Below.refl _ _) _) (by simp [World.setCell])
          rw [hb.cell (p := ⟨p, o, none⟩) h2, World.cell?_setCell_other _ _ _ _ (fun e => h1 (by first | exact congrArg Addr.block e | exact (congrArg Addr.block e).symm))]
          exact h3
         have v0 := hkc _ _ _ nm0 l0 y0
         have v1 := hkc _ _ _ nm1 l1 y1
         have v2 := hkc _ _ _ nm1 l1 y2
         have v3 := hkc _ _ _ nm1 l1 y3
         have v4 := hkc _ _ _ nm1 l1 y4
         have v5 : Wc.cell? ⟨W.heap.size, 0, none⟩ = some (.int .i64 ki) := by
          have h := heap_alloc_new (W.setCell ⟨gm, moff + x * 5 + 1, none⟩ (.int .i64 (m1 - 1))) (.cells #[.int .i64 ki, .int .i64 ro, .int .i64 ac, .int .i64 ne, .slice stA start.length stc, .int .i64 af, .int .i64 gr, .bool true, .bool fi, .int .i64 pa, .int .i64 re, .int .i64 vn, .int .i64 vd, .int .i64 un, .int .i64 tg, .bool wa] 90)
          rw [show (W.setCell ⟨gm, moff + x * 5 + 1, none⟩ (.int .i64 (m1 - 1))).heap.size = W.heap.size by simp [World.setCell], ← HWc.out] at h
          exact (cell_of_row Wc _ 0 _ _ _ h).trans rfl
         have HCc := Lib.hid hWc; clear hWc
         have hmc : (M.set x ⟨m0, m1 - 1, m2, m3, false⟩)[x]? = some ⟨m0, m1 - 1, m2, m3, false⟩ := by rw [List.getElem?_set_self (List.getElem?_eq_some_iff.1 HMX.out).1]
         have HMC := Lib.hid hmc; clear hmc
         clear y0 y1 y2 y3 y4 y5 c0 c1 c2 c3 c4 c5 c6 c7 c8 c9 c10 c11 c12 c13 c14 c15 d1 d4 f1 k4 k10 hkc l0 l1 l2 nm0 nm1 nm2 nm3
         have hkk : ki = 1 ∨ ki = 2 ∨ ki = 3 ∨ ki = 4 := by omega
         clear hq1 hq2
         rcases hkk with rfl | hkk
         · have hc : ∀ mq, Calls Tryz.prog 64 #[.pointer (some ⟨g, 0, none⟩), .int .i64 x] (Wc.drewN mq) _ := fun mq => expire_any (HCc.out.keep ((Upd.refl _ _).drewN mq)) x _ HMC.out _ HK.out
           have HC := Lib.hid hc; clear hc
           refine wpIn_region_preN 6 (Lax.round _ _) (by simp) (by kernel_rfl) (by kernel_rfl) ?_
           simp only [List.take_succ_cons, List.take_zero, List.drop_succ_cons, List.drop_zero]
           repeat (go_big_quiet_step (fail))
           refine wpQuiet_nil ?_
           rintro _ ⟨mq, rfl⟩
           gi_wp2_with (refine ⟨trivial, ?_⟩; gi_at_call 64; refine (CallsIn.inRound l (callsIn_wide.2 (HC.out mq))).mono ?_; rintro e zc ⟨rfl, hz1, hz2⟩)
           refine ⟨?_, (HUc.out.drewN mq).trans hz2 (fun _ _ h => h)⟩
           rw [HF.out]
           simp only [List.set_set] at hz1
           simp only [KMark.aged, hz, cond_true, KMark.due]
           exact hz1
         rcases hkk with rfl | hkk
         · have hc : ∀ mq, Calls Tryz.prog 65 #[.pointer (some ⟨g, 0, none⟩), .int .i64 x] (Wc.drewN mq) _ := fun mq => done_any (HCc.out.keep ((Upd.refl _ _).drewN mq)) x _ HMC.out
           have HC := Lib.hid hc; clear hc
           refine wpIn_region_preN 6 (Lax.round _ _) (by simp) (by kernel_rfl) (by kernel_rfl) ?_
           simp only [List.take_succ_cons, List.take_zero, List.drop_succ_cons, List.drop_zero]
           repeat (go_big_quiet_step (fail))
           refine wpQuiet_nil ?_
           rintro _ ⟨mq, rfl⟩
           gi_wp2_with (refine ⟨trivial, ?_⟩; gi_at_call 65; refine (CallsIn.inRound l (callsIn_wide.2 (HC.out mq))).mono ?_; rintro e zc ⟨rfl, hz1, hz2⟩)
           refine ⟨?_, (HUc.out.drewN mq).trans hz2 (fun _ _ h => h)⟩
           rw [HF.out]
           simp only [List.set_set] at hz1
           simp only [KMark.aged, hz, cond_true, KMark.due]
           exact hz1
         rcases hkk with rfl | hkk
         · have hc : ∀ mq, Calls Tryz.prog 66 #[.pointer (some ⟨g, 0, none⟩), .int .i64 x] (Wc.drewN mq) _ := fun mq => lapse_any (HCc.out.keep ((Upd.refl _ _).drewN mq)) x _ HMC.out
           have HC := Lib.hid hc; clear hc
           refine wpIn_region_preN 6 (Lax.round _ _) (by simp) (by kernel_rfl) (by kernel_rfl) ?_
           simp only [List.take_succ_cons, List.take_zero, List.drop_succ_cons, List.drop_zero]
           repeat (go_big_quiet_step (fail))
           refine wpQuiet_nil ?_
           rintro _ ⟨mq, rfl⟩
           gi_wp2_with (refine ⟨trivial, ?_⟩; gi_at_call 66; refine (CallsIn.inRound l (callsIn_wide.2 (HC.out mq))).mono ?_; rintro e zc ⟨rfl, hz1, hz2⟩)
           refine ⟨?_, (HUc.out.drewN mq).trans hz2 (fun _ _ h => h)⟩
           rw [HF.out]
           simp only [List.set_set] at hz1
           simp only [KMark.aged, hz, cond_true, KMark.due]
           exact hz1
         · subst hkk
           have hc : ∀ mq, Calls Tryz.prog 66 #[.pointer (some ⟨g, 0, none⟩), .int .i64 x] (Wc.drewN mq) _ := fun mq => lapse_any (HCc.out.keep ((Upd.refl _ _).drewN mq)) x _ HMC.out
           have HC := Lib.hid hc; clear hc
           refine wpIn_region_preN 6 (Lax.round _ _) (by simp) (by kernel_rfl) (by kernel_rfl) ?_
           simp only [List.take_succ_cons, List.take_zero, List.drop_succ_cons, List.drop_zero]
           repeat (go_big_quiet_step (fail))
           refine wpQuiet_nil ?_
           rintro _ ⟨mq, rfl⟩
           gi_wp2_with (refine ⟨trivial, ?_⟩; gi_at_call 66; refine (CallsIn.inRound l (callsIn_wide.2 (HC.out mq))).mono ?_; rintro e zc ⟨rfl, hz1, hz2⟩)
           refine ⟨?_, (HUc.out.drewN mq).trans hz2 (fun _ _ h => h)⟩
           rw [HF.out]
           simp only [List.set_set] at hz1
           simp only [KMark.aged, hz, cond_true, KMark.due]
           exact hz1
       · rename_i hz
         refine ⟨?_, ((Upd.refl _ _).setCell (.inl (.inr (.inr (.inr rfl)))) _).alloc _⟩
         rw [HF.out]
         simp only [KMark.aged, hz, cond_false]
         exact (HW.out.markCell (j := 1) (m' := ⟨m0, m1 - 1, m2, m3, false⟩) HMX.out (by omega) rfl).on (Below.alloc' (Below.refl _ _) _)
 case done =>
  as_aux_lemma =>
   intro D W hD hW hU hK
   have y0 := (hU.cell (o := 0) (by omega) hn0).trans x0
   have k7 : W.cell? ⟨g, 7, none⟩ = some (.int .i64 day) := hW.cell 7
   have f7 : W.frozen? ⟨g, 7, none⟩ = false := by simp [World.frozen?, hW.head]
   have hng : w.heap.size ≠ g := by omega
   have hst := start_any (hW.daySet (day + 1)) (by
    show List.length _ = _
    rw [foldl_len (tickMark C free) (fun i ms => tickMark_len C free i ms), HL.out]) HIN.out HRO.out
   have HST := Lib.hid hst; clear hst
   have HW := Lib.hid hW; clear hW
   have HU := Lib.hid hU; clear hU
   have hwD : w.heap.size ≤ D := by omega
   have hDn : ¬ Works g gh gu gm D := H.out.notNew hwD
   have hwW : w.heap.size ≤ W.heap.size := by have h1 := HU.out.size; omega
   clear HW2 HW0 HB0 hs0 HWZ hszz hbz hne0 hne1 hW2 x0 x1 x2 x3 x4 x5 x6 hn0 hn1 hn2 hWz HOF hol HIN HRO HKI HLE
   gi_wp2_with (refine ⟨trivial, ?_⟩; gi_at_call 69; refine (callsIn_wide.2 HST.out).mono ?_; rintro e zc ⟨rfl, hz1, hz2⟩)
   have hU3 : Upd (Works g gh gu gm) W zc := ((Upd.refl (Works g gh gu gm) W).setCell (p := ⟨g, 7, none⟩) (.inl (.inl rfl)) (.int .i64 (day + 1))).trans hz2 (fun _ _ h => h)
   have hK2 := hU3.keep hK hDn
   refine ⟨by simp, .inl ⟨_, _, rfl, run_takeDeferred hK2, ?_⟩⟩
   have hgr := grownBy_putObj' zc D (.deferred none)
   have hro : ∀ r, some D = some r → w0.heap.size ≤ r ∧ ∃ o, zc.heap[r]? = some o ∧ o.isCells = false := fun r e => by
    injection e with e
    subst e
    exact ⟨by have h1 := H.out.below.size; omega, _, hK2, rfl⟩
   have h8 := WorkAt.ownFrom (β := Unit) (fun _ => (⟨day + 1, holders, used, C.begin holders (C.ticked free ms)⟩ : KState)) _ (Nat.le_refl _) () zc _ _ hz1 hgr hro
   refine ⟨_, results_none rfl _ _ _, rfl, ?_, Nat.le_trans (Nat.le_trans hwW hU3.size) hgr.size⟩
   simp only [KCon.tick, HFR.out]
   exact h8
end Go.Proofs.YtaielhafpmjkaaaGreatDoor
