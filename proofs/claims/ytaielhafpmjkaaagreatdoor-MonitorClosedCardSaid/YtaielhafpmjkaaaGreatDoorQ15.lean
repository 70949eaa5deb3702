/-
  Work1; Work2; Work3; Start0; Start1
-/
import Derived.Test.YtaielhafpmjkaaaGreatDoorQ14
namespace Go.Proofs.YtaielhafpmjkaaaGreatDoor
open Go.RowKit
theorem RowAt.store {w : World} {e : TypeId} {size n c g off k : Nat} {xs : List Value} (h : RowAt w e size (.slice (some ⟨g, off, none⟩) n c) n xs (some g)) (hk : k < n * size) (u : Value) :
 RowAt (w.setCell ⟨g, off + k, none⟩ u) e size (.slice (some ⟨g, off, none⟩) n c) n (xs.set k u) (some g) := by
 refine ⟨by rw [List.length_set]; exact h.1, .inr ?_⟩
 rcases h.2 with ⟨h0, _, _⟩ | ⟨g', off', cap, cur, hb, hv, hg, h1, h2, h3, h4⟩
 · cases h0
 · injection hv with e1 _ e3
   injection e1 with e1
   injection e1 with e1 e4
   subst e1 e4 e3
   refine ⟨g, off, c, _, rfl, rfl, heap_setCell_same hg u, h1, h2, by simpa using h3, ?_⟩
   rw [Array.toList_setIfInBounds, ← h4]
   apply List.ext_getElem?
   intro j
   rw [List.getElem?_take, List.getElem?_set, List.getElem?_take, List.getElem?_drop, List.getElem?_drop, List.getElem?_set]
   by_cases hj : j < n * size
   · rw [if_pos hj, if_pos hj]
     have hlen : (List.take (n * size) (List.drop off cur.toList)).length = n * size := by rw [h4]; exact h.1
     by_cases ejk : k = j
     · subst ejk
       have h5 : off + k < cur.toList.length := by
        rw [List.length_take, List.length_drop] at hlen
        omega
       rw [if_pos rfl, if_pos h5, if_pos rfl, if_pos (by rw [hlen]; exact hj)]
     · rw [if_neg (by omega), if_neg ejk]
   · rw [if_neg hj, if_neg hj]
     split
     · rename_i ejk
       omega
     · rfl
theorem flat_set5 {l : List KMark} {i j : Nat} {m m' : KMark} {u : Value} (hm : l[i]? = some m) (hj : j < 5) (h : m.cells.set j u = m'.cells) : (l.flatMap KMark.cells).set (i * 5 + j) u = (l.set i m').flatMap KMark.cells := by
 induction l generalizing i with
 | nil => simp at hm
 | cons a l ih =>
  cases i with
  | zero =>
   simp at hm
   subst hm
   rw [List.flatMap_cons, List.set_cons_zero, List.flatMap_cons, Nat.zero_mul, Nat.zero_add, List.set_append_left _ _ (by simpa [KMark.cells] using hj), h]
  | succ i =>
   have h5 : a.cells.length = 5 := rfl
   rw [List.flatMap_cons, List.set_cons_succ, List.flatMap_cons, List.set_append_right _ _ (by omega), show (i + 1) * 5 + j - a.cells.length = i * 5 + j by rw [h5]; omega, ih (by simpa using hm)]
structure WorkAt (w0 w : World) (g : Nat) (v : CV) (C : KCon) (t : TV) (s : KState) (gh gu gm : Nat) : Prop where
 head : w.heap[g]? = some (.cells #[.int .i64 C.parties, .slice v.h.A C.holders.length v.h.c, .slice v.u.A C.units.length v.u.c, .slice v.a.A C.acts.length v.a.c, .slice v.k.A C.clauses.length v.k.c, .int .i64 C.days, .slice v.o.A C.off.length v.o.c, .int .i64 s.day, .slice t.h.A s.holders.length t.h.c, .slice t.u.A s.used.length t.u.c, .slice t.m.A s.marks.length t.m.c] 84 (0, 0))
 con : ConAt w0 v C
 below : Below w0.heap.size w0 w
 holders : RowAt w 3 1 (.slice t.h.A s.holders.length t.h.c) s.holders.length (ints s.holders) (some gh)
 used : RowAt w 4 1 (.slice t.u.A s.used.length t.u.c) s.used.length (bools s.used) (some gu)
 marks : RowAt w 57 5 (.slice t.m.A s.marks.length t.m.c) s.marks.length (s.marks.flatMap KMark.cells) (some gm)
 newG : w0.heap.size ≤ g
 newH : w0.heap.size ≤ gh
 newU : w0.heap.size ≤ gu
 newM : w0.heap.size ≤ gm
theorem RowAt.at0 {w : World} {e : TypeId} {size n c g : Nat} {A : Option Addr} {xs : List Value} (h : RowAt w e size (.slice A n c) n xs (some g)) :
 ∃ off, A = some ⟨g, off, none⟩ ∧ n ≤ c ∧ c ≤ maxLen ∧ g < w.heap.size ∧ (∀ j, j < n * size → w.cell? ⟨g, off + j, none⟩ = xs[j]?) ∧ (∀ j, w.frozen? ⟨g, j, none⟩ = false) := by
 rcases h.2 with ⟨_, _, h0⟩ | ⟨g', off, cap, cur, hb, hv, hg, h1, h2, h3, h4⟩
 · cases h0
 · injection hb with hb
   subst hb
   injection hv with e1 _ e3
   subst e1 e3
   refine ⟨off, rfl, h1, h2, lt_of_heap hg, fun j hj => ?_, fun j => by simp [World.frozen?, hg]⟩
   rw [cell_of_row w g (off + j) cur e (0, 0) hg, ← h4, List.getElem?_take, if_pos hj, List.getElem?_drop]
   simp
section
variable {w0 w : World} {g : Nat} {v : CV} {C : KCon} {t : TV} {s : KState} {gh gu gm : Nat} (h : WorkAt w0 w g v C t s gh gu gm)
include h
theorem WorkAt.cell (j : Nat) : w.cell? ⟨g, j, none⟩ = [Value.int .i64 C.parties, .slice v.h.A C.holders.length v.h.c, .slice v.u.A C.units.length v.u.c, .slice v.a.A C.acts.length v.a.c, .slice v.k.A C.clauses.length v.k.c, .int .i64 C.days, .slice v.o.A C.off.length v.o.c, .int .i64 s.day, .slice t.h.A s.holders.length t.h.c, .slice t.u.A s.used.length t.u.c, .slice t.m.A s.marks.length t.m.c][j]? := by
 rw [cell_of_row _ _ j _ _ _ h.head]
 exact List.getElem?_toArray
theorem WorkAt.gm_ne : g ≠ gm := fun e => by
 subst e
 rcases h.marks.2 with ⟨_, _, h0⟩ | ⟨g', off, cap, cur, hb, hv, hg, _⟩
 · cases h0
 · injection hb with hb
   subst hb
   have h2 := h.head.symm.trans hg
   simp at h2
end
theorem RowAt.block_type {w : World} {e : TypeId} {size n : Nat} {v : Value} {xs : List Value} {k : Nat} (h : RowAt w e size v n xs (some k)) : ∃ cur, w.heap[k]? = some (.cells cur e (0, 0)) := by
 rcases h.2 with ⟨_, _, h0⟩ | ⟨g', off, cap, cur, hb, hv, hg, _⟩
 · cases h0
 · injection hb with hb
   subst hb
   exact ⟨cur, hg⟩
theorem RowAt.blocks_ne {w : World} {e e' : TypeId} {size size' n n' : Nat} {v v' : Value} {xs xs' : List Value} {k k' : Nat} (h : RowAt w e size v n xs (some k)) (h' : RowAt w e' size' v' n' xs' (some k')) (hne : e ≠ e') : k ≠ k' := fun ek => by
 subst ek
 obtain ⟨c1, h1⟩ := h.block_type
 obtain ⟨c2, h2⟩ := h'.block_type
 have h3 := h1.symm.trans h2
 simp at h3
 exact hne h3.2
theorem WorkAt.setMarks {w0 w w' : World} {g : Nat} {v : CV} {C : KCon} {t : TV} {s : KState} {gh gu gm : Nat} (h : WorkAt w0 w g v C t s gh gu gm) (ms : List KMark) (hl : ms.length = s.marks.length)
 (hrow : RowAt w' 57 5 (.slice t.m.A s.marks.length t.m.c) s.marks.length (ms.flatMap KMark.cells) (some gm)) (hu : Upd (fun k => k = gm) w w') :
 WorkAt w0 w' g v C t ⟨s.day, s.holders, s.used, ms⟩ gh gu gm :=
 ⟨by simpa [hl] using hu.keep h.head h.gm_ne, h.con, h.below.trans (hu.below h.below.size (fun k hk => by rw [hk]; exact h.newM)),
  h.holders.keep hu (fun k hk e => by injection hk with hk; subst hk; exact h.holders.blocks_ne h.marks (by decide) e),
  h.used.keep hu (fun k hk e => by injection hk with hk; subst hk; exact h.used.blocks_ne h.marks (by decide) e),
  by simpa [hl] using hrow, h.newG, h.newH, h.newU, h.newM⟩
def KMark.ended (m : KMark) (st : Int) : KMark := ⟨st, 0, m.got, m.bearer, false⟩
def WorkPost (w0 : World) (g : Nat) (v : CV) (C : KCon) (t : TV) (s' : KState) (gh gu gm : Nat) (w : World) (e : Ending) (w' : World) : Prop :=
 e = .returned (.tuple #[]) ∧ WorkAt w0 w' g v C t s' gh gu gm ∧ w.heap.size ≤ w'.heap.size
def Works (g gh gu gm : Nat) (k : Nat) : Prop := k = g ∨ k = gh ∨ k = gu ∨ k = gm
def WorkPostU (w0 : World) (g : Nat) (v : CV) (C : KCon) (t : TV) (s' : KState) (gh gu gm : Nat) (w : World) (e : Ending) (w' : World) : Prop :=
 e = .returned (.tuple #[]) ∧ WorkAt w0 w' g v C t s' gh gu gm ∧ Upd (Works g gh gu gm) w w'
set_option maxRecDepth 100000 in
set_option maxHeartbeats 4000000 in
theorem end_any {w0 w : World} {g : Nat} {v : CV} {C : KCon} {t : TV} {s : KState} {gh gu gm : Nat} (h : WorkAt w0 w g v C t s gh gu gm) (i : Nat) (m : KMark) (hm : s.marks[i]? = some m) (st : Int) :
 Calls Tryz.prog 97 #[.pointer (some ⟨g, 0, none⟩), .int .i64 i, .int .i64 st] w (WorkPostU w0 g v C t ⟨s.day, s.holders, s.used, s.marks.set i (m.ended st)⟩ gh gu gm w) := by
 have him : i < s.marks.length := (List.getElem?_eq_some_iff.1 hm).1
 obtain ⟨off, hA, hc1, hc2, hgl, hcell, hfz⟩ := h.marks.at0
 obtain ⟨th, tu, ⟨tmA, tmc⟩⟩ := t
 simp only at hA hc1 hc2
 subst hA
 unfold maxLen at hc2
 have k10 : w.cell? ⟨g, 10, none⟩ = some (.slice (some ⟨gm, off, none⟩) s.marks.length tmc) := h.cell 10
 have hne := h.gm_ne
 obtain ⟨ms, ml, mg, mb, mp⟩ := m
 have hat : ∀ j, j < 5 → w.cell? ⟨gm, off + i * 5 + j, none⟩ = (KMark.cells ⟨ms, ml, mg, mb, mp⟩)[j]? := fun j hj => by
  rw [Nat.add_assoc, hcell _ (by omega)]
  exact get_flat KMark.cells 5 (fun _ => rfl) s.marks i j _ hm hj
 have m0 : w.cell? ⟨gm, off + i * 5, none⟩ = some (.int .i64 ms) := hat 0 (by omega)
 have m1 : w.cell? ⟨gm, off + i * 5 + 1, none⟩ = some (.int .i64 ml) := hat 1 (by omega)
 have m4 : w.cell? ⟨gm, off + i * 5 + 4, none⟩ = some (.bool mp) := hat 4 (by omega)
 have f0 := hfz (off + i * 5)
 have f1 := hfz (off + i * 5 + 1)
 have f4 := hfz (off + i * 5 + 4)
 clear hat hcell hfz
 have H := Lib.hid h; clear h
 have HM := Lib.hid hm; clear hm
 have i0 : (0 : Int) ≤ (i : Int) := by omega
 have i1 : (i : Int) < (s.marks.length : Int) := by omega
 have hk0 : ∀ (a : Value), (w.setCell ⟨gm, off + i * 5, none⟩ a).cell? ⟨g, 10, none⟩ = some (.slice (some ⟨gm, off, none⟩) s.marks.length tmc) := fun a => by
  rw [World.cell?_setCell_other _ _ _ _ (fun e => hne (by first | exact congrArg Addr.block e | exact (congrArg Addr.block e).symm))]
  exact k10
 go_enter Tryz.func97, Tryz.ntmps97
 go_wp2
 go_region
 all_goals
  go_wp2
  go_end0
  have hr1 := H.out.marks.store (k := i * 5) (by omega) (.int .i64 st)
  have hr2 : RowAt ((w.setCell ⟨gm, off + i * 5, none⟩ (.int .i64 st)).setCell ⟨gm, off + i * 5 + 1, none⟩ (.int .i64 0)) _ _ _ _ _ _ := hr1.store (k := i * 5 + 1) (by omega) (.int .i64 0)
  have hr3 : RowAt (((w.setCell ⟨gm, off + i * 5, none⟩ (.int .i64 st)).setCell ⟨gm, off + i * 5 + 1, none⟩ (.int .i64 0)).setCell ⟨gm, off + i * 5 + 4, none⟩ (.bool false)) _ _ _ _ _ _ := hr2.store (k := i * 5 + 4) (by omega) (.bool false)
  have e1 := flat_set5 (j := 0) (m' := ⟨st, ml, mg, mb, mp⟩) (u := .int .i64 st) HM.out (by omega) rfl
  have e2 := flat_set5 (l := s.marks.set i ⟨st, ml, mg, mb, mp⟩) (j := 1) (m := ⟨st, ml, mg, mb, mp⟩) (m' := ⟨st, 0, mg, mb, mp⟩) (u := .int .i64 0) (by rw [List.getElem?_set_self him]) (by omega) rfl
  have e3 := flat_set5 (l := s.marks.set i ⟨st, 0, mg, mb, mp⟩) (j := 4) (m := ⟨st, 0, mg, mb, mp⟩) (m' := ⟨st, 0, mg, mb, false⟩) (u := .bool false) (by rw [List.getElem?_set_self him]) (by omega) rfl
  rw [List.set_set] at e2 e3
  rw [Nat.add_zero] at e1
  rw [e1, e2, e3] at hr3
  have hu : Upd (fun k => k = gm) w (((w.setCell ⟨gm, off + i * 5, none⟩ (.int .i64 st)).setCell ⟨gm, off + i * 5 + 1, none⟩ (.int .i64 0)).setCell ⟨gm, off + i * 5 + 4, none⟩ (.bool false)).drew := ((((Upd.refl (fun k => k = gm) w).setCell (.inl rfl) _).setCell (.inl rfl) _).setCell (.inl rfl) _).drew
  refine ⟨rfl, H.out.setMarks _ (by simp) ?_ hu, hu.mono (fun _ _ h => .inr (.inr (.inr h)))⟩
  exact hr3.keep (S := fun _ => False) ((Upd.refl _ _).drew) (fun _ _ h => h)
end Go.Proofs.YtaielhafpmjkaaaGreatDoor
namespace Go.Proofs.YtaielhafpmjkaaaGreatDoor
open Go.RowKit
theorem WorkAt.keep {w0 w w' : World} {g : Nat} {v : CV} {C : KCon} {t : TV} {s : KState} {gh gu gm : Nat} (h : WorkAt w0 w g v C t s gh gu gm) (hu : Upd (fun _ => False) w w') : WorkAt w0 w' g v C t s gh gu gm :=
 ⟨hu.keep h.head (fun h => h), h.con, h.below.trans (hu.below h.below.size (fun _ hk => hk.elim)), h.holders.keep hu (fun _ _ h => h), h.used.keep hu (fun _ _ h => h), h.marks.keep hu (fun _ _ h => h), h.newG, h.newH, h.newU, h.newM⟩
theorem WorkAt.markCell {w0 w : World} {g : Nat} {v : CV} {C : KCon} {th tu : SV} {off tmc : Nat} {s : KState} {gh gu gm : Nat} (h : WorkAt w0 w g v C ⟨th, tu, ⟨some ⟨gm, off, none⟩, tmc⟩⟩ s gh gu gm) {i j : Nat} {m m' : KMark} {u : Value} (hm : s.marks[i]? = some m) (hj : j < 5) (hc : m.cells.set j u = m'.cells) :
 WorkAt w0 (w.setCell ⟨gm, off + i * 5 + j, none⟩ u) g v C ⟨th, tu, ⟨some ⟨gm, off, none⟩, tmc⟩⟩ ⟨s.day, s.holders, s.used, s.marks.set i m'⟩ gh gu gm := by
 have him : i < s.marks.length := (List.getElem?_eq_some_iff.1 hm).1
 have hr := h.marks.store (k := i * 5 + j) (by omega) u
 rw [flat_set5 hm hj hc] at hr
 rw [show off + i * 5 + j = off + (i * 5 + j) by omega]
 exact h.setMarks _ (by simp) hr ((Upd.refl (fun k => k = gm) w).setCell (.inl rfl) _)
theorem WorkAt.markAt {w0 w : World} {g : Nat} {v : CV} {C : KCon} {t : TV} {s : KState} {gh gu gm : Nat} (h : WorkAt w0 w g v C t s gh gu gm) {i : Nat} {m : KMark} (hm : s.marks[i]? = some m) :
 ∃ off, t.m.A = some ⟨gm, off, none⟩ ∧ gm < w.heap.size ∧ (∀ j, j < 5 → w.cell? ⟨gm, off + i * 5 + j, none⟩ = m.cells[j]?) ∧ (∀ j, w.frozen? ⟨gm, j, none⟩ = false) := by
 have him : i < s.marks.length := (List.getElem?_eq_some_iff.1 hm).1
 obtain ⟨off, hA, hc1, hc2, hgl, hcell, hfz⟩ := h.marks.at0
 refine ⟨off, hA, hgl, fun j hj => ?_, hfz⟩
 rw [Nat.add_assoc, hcell _ (by omega)]
 exact get_flat KMark.cells 5 (fun _ => rfl) s.marks i j _ hm hj
section
variable {w0 w : World} {g : Nat} {v : CV} {C : KCon} {t : TV} {s : KState} {gh gu gm : Nat}
theorem done_any (h : WorkAt w0 w g v C t s gh gu gm) (i : Nat) (m : KMark) (hm : s.marks[i]? = some m) :
 Calls Tryz.prog 65 #[.pointer (some ⟨g, 0, none⟩), .int .i64 i] w (WorkPostU w0 g v C t ⟨s.day, s.holders, s.used, s.marks.set i (m.ended 3)⟩ gh gu gm w) := by
 have hc := end_any h i m hm 3
 have HC := Lib.hid hc; clear hc h hm
 go_enter Tryz.func65, Tryz.ntmps65
 go_wp2_with fail
 refine HC.out.mono ?_
 rintro e z ⟨rfl, hz, hs⟩
 go_wp2
 go_end0
 exact ⟨rfl, hz, hs⟩
theorem lapse_any (h : WorkAt w0 w g v C t s gh gu gm) (i : Nat) (m : KMark) (hm : s.marks[i]? = some m) :
 Calls Tryz.prog 66 #[.pointer (some ⟨g, 0, none⟩), .int .i64 i] w (WorkPostU w0 g v C t ⟨s.day, s.holders, s.used, s.marks.set i (m.ended 5)⟩ gh gu gm w) := by
 have hc := end_any h i m hm 5
 have HC := Lib.hid hc; clear hc h hm
 go_enter Tryz.func66, Tryz.ntmps66
 go_wp2_with fail
 refine HC.out.mono ?_
 rintro e z ⟨rfl, hz, hs⟩
 go_wp2
 go_end0
 exact ⟨rfl, hz, hs⟩
theorem set_same {α : Type} {l : List α} {i : Nat} {x : α} (h : l[i]? = some x) : l.set i x = l := by
 apply List.ext_getElem?
 intro j
 rw [List.getElem?_set]
 split
 · rename_i e
   subst e
   have hi : i < l.length := (List.getElem?_eq_some_iff.1 h).1
   rw [if_pos hi, h]
 · rfl
def KMark.violated (m : KMark) : KMark := cond m.paused m (m.ended 4)
set_option maxHeartbeats 1000000 in
theorem violate_any (h : WorkAt w0 w g v C t s gh gu gm) (i : Nat) (m : KMark) (hm : s.marks[i]? = some m) :
 Calls Tryz.prog 71 #[.pointer (some ⟨g, 0, none⟩), .int .i64 i] w (WorkPostU w0 g v C t ⟨s.day, s.holders, s.used, s.marks.set i m.violated⟩ gh gu gm w) := by
 have him : i < s.marks.length := (List.getElem?_eq_some_iff.1 hm).1
 obtain ⟨off, hA, hgl, hcell, _⟩ := h.markAt hm
 obtain ⟨th, tu, ⟨tmA, tmc⟩⟩ := t
 simp only at hA
 subst hA
 have k10 : w.cell? ⟨g, 10, none⟩ = some (.slice (some ⟨gm, off, none⟩) s.marks.length tmc) := h.cell 10
 have m4 : w.cell? ⟨gm, off + i * 5 + 4, none⟩ = some (.bool m.paused) := hcell 4 (by omega)
 clear hcell
 have hc := end_any h i m hm 4
 have HC := Lib.hid hc; clear hc
 have i0 : (0 : Int) ≤ (i : Int) := by omega
 have i1 : (i : Int) < (s.marks.length : Int) := by omega
 obtain ⟨ms, ml, mg, mb, mp⟩ := m
 have H := Lib.hid h; clear h
 have HM := Lib.hid hm; clear hm
 cases mp with
 | true =>
  go_enter Tryz.func71, Tryz.ntmps71
  go_wp2
  go_end0
  refine ⟨rfl, ?_, Upd.refl _ _⟩
  have e : s.marks.set i (KMark.violated ⟨ms, ml, mg, mb, true⟩) = s.marks := set_same HM.out
  rw [e]
  exact H.out
 | false =>
  go_enter Tryz.func71, Tryz.ntmps71
  go_wp2_with fail
  refine HC.out.mono ?_
  rintro e z ⟨rfl, hz, hs⟩
  go_wp2
  go_end0
  exact ⟨rfl, hz, hs⟩
def KMark.performed (m : KMark) (need : Int) : KMark := cond (m.got + 1 == need) (KMark.ended ⟨m.status, m.left, m.got + 1, m.bearer, m.paused⟩ 3) ⟨m.status, m.left, m.got + 1, m.bearer, m.paused⟩
set_option maxRecDepth 100000 in
set_option maxHeartbeats 2000000 in
theorem perform_any (h : WorkAt w0 w g v C t s gh gu gm) (i : Nat) (m : KMark) (hm : s.marks[i]? = some m) (k : KClause) (hk : C.clauses[i]? = some k) (hg0 : 0 ≤ m.got) (hg1 : m.got ≤ 1000000) :
 Calls Tryz.prog 70 #[.pointer (some ⟨g, 0, none⟩), .int .i64 i] w (WorkPostU w0 g v C t ⟨s.day, s.holders, s.used, s.marks.set i (m.performed k.need)⟩ gh gu gm w) := by
 have him : i < s.marks.length := (List.getElem?_eq_some_iff.1 hm).1
 have hik : i < C.clauses.length := (List.getElem?_eq_some_iff.1 hk).1
 obtain ⟨off, hA, hgl, hcell, hfz⟩ := h.markAt hm
 obtain ⟨b, koff, st, hK, hbl, hkc, _⟩ := h.con.clause hk
 obtain ⟨th, tu, ⟨tmA, tmc⟩⟩ := t
 obtain ⟨vh, vu, va, ⟨kA, kcp⟩, vo⟩ := v
 simp only at hA hK
 subst hA hK
 have k10 : w.cell? ⟨g, 10, none⟩ = some (.slice (some ⟨gm, off, none⟩) s.marks.length tmc) := h.cell 10
 have m2 : w.cell? ⟨gm, off + i * 5 + 2, none⟩ = some (.int .i64 m.got) := hcell 2 (by omega)
 have f2 := hfz (off + i * 5 + 2)
 clear hcell hfz
 obtain ⟨ms, ml, mg, mb, mp⟩ := m
 simp only at hg0 hg1 m2
 have h1 : WorkAt w0 (w.setCell ⟨gm, off + i * 5 + 2, none⟩ (.int .i64 (mg + 1))) g ⟨vh, vu, va, ⟨some ⟨b, koff, none⟩, kcp⟩, vo⟩ C ⟨th, tu, ⟨some ⟨gm, off, none⟩, tmc⟩⟩ ⟨s.day, s.holders, s.used, s.marks.set i ⟨ms, ml, mg + 1, mb, mp⟩⟩ gh gu gm := h.markCell (m' := ⟨ms, ml, mg + 1, mb, mp⟩) hm (by omega) rfl
 generalize hn : k.need = nd
 have HN := Lib.hid hn; clear hn
 have i0 : (0 : Int) ≤ (i : Int) := by omega
 have i1 : (i : Int) < (s.marks.length : Int) := by omega
 have i2 : (i : Int) < (C.clauses.length : Int) := by omega
 have H := Lib.hid h; clear h
 have HM := Lib.hid hm; clear hm
 have HK := Lib.hid hk; clear hk
 go_enter Tryz.func70, Tryz.ntmps70
 go_upto_region 1 with (fail)
 obtain ⟨W1, HW1⟩ : ∃ W1, Hid (W1 = w.setCell ⟨gm, off + i * 5 + 2, none⟩ (.int .i64 (mg + 1))) := ⟨_, rfl⟩
 rw [← HW1.out] at h1 ⊢
 have k10' : W1.cell? ⟨g, 10, none⟩ = some (.slice (some ⟨gm, off, none⟩) s.marks.length tmc) := by have h := h1.cell 10; simpa using h
 have k4' : W1.cell? ⟨g, 4, none⟩ = some (.slice (some ⟨b, koff, none⟩) C.clauses.length kcp) := h1.cell 4
 obtain ⟨off', hA', _, hcell', _⟩ := h1.markAt (i := i) (m := ⟨ms, ml, mg + 1, mb, mp⟩) (by simp [him])
 simp only [Option.some.injEq, Addr.mk.injEq, true_and, and_true] at hA'
 subst hA'
 have m2' : W1.cell? ⟨gm, off + i * 5 + 2, none⟩ = some (.int .i64 (mg + 1)) := hcell' 2 (by omega)
 have c3 : W1.cell? ⟨b, koff + i * 16 + 3, none⟩ = some (.int .i64 nd) := by rw [← HN.out]; exact hkc W1 h1.below 3 (by omega)
 clear hcell' hkc k10 m2
 have hend : ∀ n : Nat, Calls Tryz.prog 97 #[.pointer (some ⟨g, 0, none⟩), .int .i64 i, .int .i64 3] (W1.drewN n) (WorkPostU w0 g ⟨vh, vu, va, ⟨some ⟨b, koff, none⟩, kcp⟩, vo⟩ C ⟨th, tu, ⟨some ⟨gm, off, none⟩, tmc⟩⟩ ⟨s.day, s.holders, s.used, (s.marks.set i ⟨ms, ml, mg + 1, mb, mp⟩).set i (KMark.ended ⟨ms, ml, mg + 1, mb, mp⟩ 3)⟩ gh gu gm (W1.drewN n)) := fun n =>
  end_any (h1.keep ((Upd.refl _ _).drewN n)) i ⟨ms, ml, mg + 1, mb, mp⟩ (by simp [him]) 3
 simp only [List.set_set] at hend
 have HEND := Lib.hid hend; clear hend
 have H1 := Lib.hid h1; clear h1
 have HSZ : Hid (Upd (Works g gh gu gm) w W1) := by show Upd _ _ _; rw [HW1.out]; exact (Upd.refl _ _).setCell (.inl (.inr (.inr (.inr rfl)))) _
 cases q : (mg + 1 == nd) with
 | true =>
  go_quiet (fail)
  go_wp2_with fail
  refine (HEND.out _).mono ?_
  rintro e z ⟨rfl, hz, hs⟩
  go_wp2
  go_end0
  refine ⟨rfl, ?_, (HSZ.out.drewN _).trans hs (fun _ _ h => h)⟩
  rw [KMark.performed, q]
  exact hz
 | false =>
  go_quiet (fail)
  go_wp2
  go_end0
  refine ⟨rfl, ?_, HSZ.out.drewN _⟩
  rw [KMark.performed, q]
  exact H1.out.keep ((Upd.refl _ _).drewN _)
end
end Go.Proofs.YtaielhafpmjkaaaGreatDoor
namespace Go.Proofs.YtaielhafpmjkaaaGreatDoor
open Go.RowKit
def KMark.expired (m : KMark) (grace : Int) : KMark := cond ((m.status == 1) && decide (0 < grace)) ⟨2, grace, m.got, m.bearer, m.paused⟩ (m.ended 4)
section
variable {w0 w : World} {g : Nat} {v : CV} {C : KCon} {t : TV} {s : KState} {gh gu gm : Nat}
set_option maxRecDepth 100000 in
set_option maxHeartbeats 2000000 in
theorem expire_any (h : WorkAt w0 w g v C t s gh gu gm) (i : Nat) (m : KMark) (hm : s.marks[i]? = some m) (k : KClause) (hk : C.clauses[i]? = some k) :
 Calls Tryz.prog 64 #[.pointer (some ⟨g, 0, none⟩), .int .i64 i] w (WorkPostU w0 g v C t ⟨s.day, s.holders, s.used, s.marks.set i (m.expired k.grace)⟩ gh gu gm w) := by
 have him : i < s.marks.length := (List.getElem?_eq_some_iff.1 hm).1
 have hik : i < C.clauses.length := (List.getElem?_eq_some_iff.1 hk).1
 obtain ⟨off, hA, hgl, hcell, hfz⟩ := h.markAt hm
 obtain ⟨b, koff, st, hK, hbl, hkc, _⟩ := h.con.clause hk
 obtain ⟨th, tu, ⟨tmA, tmc⟩⟩ := t
 obtain ⟨vh, vu, va, ⟨kA, kcp⟩, vo⟩ := v
 simp only at hA hK
 subst hA hK
 have k10 : w.cell? ⟨g, 10, none⟩ = some (.slice (some ⟨gm, off, none⟩) s.marks.length tmc) := h.cell 10
 have k4 : w.cell? ⟨g, 4, none⟩ = some (.slice (some ⟨b, koff, none⟩) C.clauses.length kcp) := h.cell 4
 obtain ⟨ms, ml, mg, mb, mp⟩ := m
 have m0 : w.cell? ⟨gm, off + i * 5, none⟩ = some (.int .i64 ms) := hcell 0 (by omega)
 have m1 : w.cell? ⟨gm, off + i * 5 + 1, none⟩ = some (.int .i64 ml) := hcell 1 (by omega)
 have f0 := hfz (off + i * 5)
 have f1 := hfz (off + i * 5 + 1)
 have c6 : w.cell? ⟨b, koff + i * 16 + 6, none⟩ = some (.int .i64 k.grace) := hkc w h.below 6 (by omega)
 clear hcell hfz hkc
 generalize hn : k.grace = gr at *
 have HN := Lib.hid hn; clear hn
 have hgm := h.gm_ne
 have hbm : b ≠ gm := fun e => by have h1 := h.newM; omega
 have hc := end_any h i _ hm 4
 have HC := Lib.hid hc; clear hc
 have i0 : (0 : Int) ≤ (i : Int) := by omega
 have i1 : (i : Int) < (s.marks.length : Int) := by omega
 have i2 : (i : Int) < (C.clauses.length : Int) := by omega
 have H := Lib.hid h; clear h
 have HM := Lib.hid hm; clear hm
 have HK := Lib.hid hk; clear hk
 cases q1 : (ms == 1) with
 | false =>
  go_enter Tryz.func64, Tryz.ntmps64
  go_wp2_with fail
  refine HC.out.mono ?_
  rintro e z ⟨rfl, hz, hs⟩
  go_wp2
  go_end0
  refine ⟨rfl, ?_, hs⟩
  rw [KMark.expired]
  simp only [q1, Bool.false_and]
  exact hz
 | true =>
  cases q2 : decide (0 < gr) with
  | false =>
   go_enter Tryz.func64, Tryz.ntmps64
   go_wp2_with fail
   refine HC.out.mono ?_
   rintro e z ⟨rfl, hz, hs⟩
   go_wp2
   go_end0
   refine ⟨rfl, ?_, hs⟩
   rw [KMark.expired]
   simp only [q1, q2, Bool.and_false]
   exact hz
  | true =>
   go_enter Tryz.func64, Tryz.ntmps64
   go_wp2
   go_region
   all_goals
    go_wp2
    go_end0
    have h1 := H.out.markCell (j := 0) (m' := ⟨2, ml, mg, mb, mp⟩) (u := .int .i64 2) HM.out (by omega) rfl
    have h2 := h1.markCell (i := i) (j := 1) (m := ⟨2, ml, mg, mb, mp⟩) (m' := ⟨2, gr, mg, mb, mp⟩) (u := .int .i64 gr) (by simp [him]) (by omega) rfl
    simp only [List.set_set, Nat.add_zero] at h2
    refine ⟨rfl, ?_, (((Upd.refl _ _).setCell (.inl (.inr (.inr (.inr rfl)))) _).setCell (.inl (.inr (.inr (.inr rfl)))) _).drew⟩
    rw [KMark.expired]
    simp only [q1, q2, Bool.and_self, cond_true]
    exact h2.keep ((Upd.refl _ _).drew)
end
def KMark.runs (m : KMark) : Bool := (m.status == 1) || (m.status == 2)
set_option maxHeartbeats 400000 in
theorem running_any (m : KMark) (w : World) : Calls Tryz.prog 101 #[.agg #[.int .i64 m.status, .int .i64 m.left, .int .i64 m.got, .int .i64 m.bearer, .bool m.paused]] w (RetB (.bool m.runs) w) := by
 generalize hE : m.runs = E
 cases q1 : (m.status == 1) with
 | true =>
  obtain rfl : E = true := by rw [← hE]; unfold KMark.runs; rw [q1]; rfl
  go_enter Tryz.func101, Tryz.ntmps101
  go_wp2
  go_ret
  exact ⟨rfl, Below.alloc' (Below.refl _ _) _⟩
 | false =>
  obtain rfl : E = (m.status == 2) := by rw [← hE]; unfold KMark.runs; rw [q1]; rfl
  clear hE
  go_enter Tryz.func101, Tryz.ntmps101
  go_wp2
  go_ret
  exact ⟨rfl, Below.alloc' (Below.refl _ _) _⟩
end Go.Proofs.YtaielhafpmjkaaaGreatDoor
namespace Go.Proofs.YtaielhafpmjkaaaGreatDoor
def bearerOf (hs : List Int) (k : KClause) : Int := cond (k.kind == 4) (-1) (holderAt hs k.role)
def liveK (hs : List Int) (k : KClause) : KMark := ⟨1, k.after, 0, bearerOf hs k, false⟩
def firesAt (C : KCon) (ms : List KMark) (i : Nat) : Bool := match C.clauses[i]?, ms[i]? with | some k, some m => readyK ms k m | _, _ => false
def startAt (C : KCon) (hs : List Int) (ms : List KMark) (i : Nat) : List KMark := match C.clauses[i]? with | some k => cond (firesAt C ms i) (ms.set i (liveK hs k)) ms | none => ms
def startTo (C : KCon) (hs : List Int) (ms : List KMark) : Nat → List KMark
 | 0 => ms
 | j + 1 => startAt C hs (startTo C hs ms j) j
def firedTo (C : KCon) (hs : List Int) (ms : List KMark) : Nat → Bool
 | 0 => false
 | j + 1 => firedTo C hs ms j || firesAt C (startTo C hs ms j) j
def idle (ms : List KMark) : Nat := (ms.filter (fun m => m.status == 0)).length
theorem startAt_len (C : KCon) (hs : List Int) (ms : List KMark) (i : Nat) : (startAt C hs ms i).length = ms.length := by
 unfold startAt
 cases C.clauses[i]? with
 | none => rfl
 | some k => cases firesAt C ms i <;> simp
theorem startTo_len (C : KCon) (hs : List Int) (ms : List KMark) : ∀ j, (startTo C hs ms j).length = ms.length
 | 0 => rfl
 | j + 1 => by rw [startTo, startAt_len, startTo_len C hs ms j]
theorem idle_set {l : List KMark} {i : Nat} {m m' : KMark} (hm : l[i]? = some m) (h0 : (m.status == 0) = true) (h1 : (m'.status == 0) = false) : idle (l.set i m') + 1 = idle l := by
 induction l generalizing i with
 | nil => simp at hm
 | cons a l ih =>
  cases i with
  | zero =>
   simp at hm
   subst hm
   simp only [idle, List.set_cons_zero, List.filter_cons, h0, h1, if_true]
   simp
  | succ i =>
   have := ih (i := i) (by simpa using hm)
   simp only [idle, List.set_cons_succ, List.filter_cons] at this ⊢
   split
   · simp only [List.length_cons]
     omega
   · exact this
theorem startAt_idle (C : KCon) (hs : List Int) (ms : List KMark) (i : Nat) : (firesAt C ms i = true → idle (startAt C hs ms i) + 1 = idle ms) ∧ (firesAt C ms i = false → startAt C hs ms i = ms) := by
 refine ⟨fun h => ?_, fun h => ?_⟩
 · have hf := h
   unfold firesAt at hf
   unfold startAt
   cases hk : C.clauses[i]? with
   | none => simp [hk] at hf
   | some k =>
    cases hm : ms[i]? with
    | none => simp [hk, hm] at hf
    | some m =>
     simp only [hk, hm] at hf
     simp only [h, cond_true]
     refine idle_set hm ?_ rfl
     unfold readyK at hf
     simp only [Bool.and_eq_true] at hf
     exact hf.1
 · unfold startAt
   cases hk : C.clauses[i]? with
   | none => rfl
   | some k => simp only [h, cond_false]
theorem startTo_idle (C : KCon) (hs : List Int) (ms : List KMark) : ∀ j, (firedTo C hs ms j = true → idle (startTo C hs ms j) < idle ms) ∧ (firedTo C hs ms j = false → startTo C hs ms j = ms)
 | 0 => ⟨fun h => (by cases h), fun _ => rfl⟩
 | j + 1 => by
  obtain ⟨h1, h2⟩ := startTo_idle C hs ms j
  obtain ⟨h3, h4⟩ := startAt_idle C hs (startTo C hs ms j) j
  refine ⟨fun h => ?_, fun h => ?_⟩
  · rw [firedTo, Bool.or_eq_true] at h
    rw [startTo]
    cases hf : firesAt C (startTo C hs ms j) j with
    | true =>
     have h5 := h3 hf
     cases hg : firedTo C hs ms j with
     | true => have := h1 hg; omega
     | false => rw [h2 hg] at h5 ⊢; omega
    | false =>
     rw [h4 hf]
     rcases h with h | h
     · exact h1 h
     · rw [hf] at h; cases h
  · rw [firedTo, Bool.or_eq_false_iff] at h
    rw [startTo, h4 h.2, h2 h.1]
def startAll (C : KCon) (hs : List Int) : Nat → List KMark → List KMark
 | 0, ms => ms
 | f + 1, ms => cond (firedTo C hs ms C.clauses.length) (startAll C hs f (startTo C hs ms C.clauses.length)) ms
theorem startAll_fuel (C : KCon) (hs : List Int) : ∀ (f f' : Nat) (ms : List KMark), idle ms < f → idle ms < f' → startAll C hs f ms = startAll C hs f' ms
 | 0, _, _, h, _ => by omega
 | _, 0, _, _, h => by omega
 | f + 1, f' + 1, ms, h, h' => by
  rw [startAll, startAll]
  cases hf : firedTo C hs ms C.clauses.length with
  | false => rfl
  | true =>
   have := (startTo_idle C hs ms C.clauses.length).1 hf
   simp only [cond_true]
   exact startAll_fuel C hs f f' _ (by omega) (by omega)
def KCon.begin (C : KCon) (hs : List Int) (ms : List KMark) : List KMark := startAll C hs (idle ms + 1) ms
theorem begin_fired {C : KCon} {hs : List Int} {ms : List KMark} (h : firedTo C hs ms C.clauses.length = true) : C.begin hs ms = C.begin hs (startTo C hs ms C.clauses.length) := by
 have h1 := (startTo_idle C hs ms C.clauses.length).1 h
 unfold KCon.begin
 rw [startAll, h, cond_true]
 exact startAll_fuel C hs _ _ _ h1 (by omega)
theorem begin_still {C : KCon} {hs : List Int} {ms : List KMark} (h : firedTo C hs ms C.clauses.length = false) : C.begin hs ms = ms := by
 unfold KCon.begin
 rw [startAll, h, cond_false]
end Go.Proofs.YtaielhafpmjkaaaGreatDoor
namespace Go.Proofs.YtaielhafpmjkaaaGreatDoor
open Go.RowKit
theorem WorkAt.on {w0 w w' : World} {g : Nat} {v : CV} {C : KCon} {t : TV} {s : KState} {gh gu gm : Nat} (h : WorkAt w0 w g v C t s gh gu gm) (hb : Below w.heap.size w w') : WorkAt w0 w' g v C t s gh gu gm :=
 h.keep ((Upd.of_below hb).mono (fun i hi hk => by omega))
theorem RowAt.toAt {w : World} {e : TypeId} {size n c g : Nat} {A : Option Addr} {xs : List Value} (h : RowAt w e size (.slice A n c) n xs (some g)) (h1 : ∀ u ∈ xs, u.oneCell' = true) : At w size A n c xs := by
 obtain ⟨A', cap, hv, hs⟩ := h.src h1
 obtain ⟨off, hA, hc1, hc2, _⟩ := h.at0
 injection hv with e1 _ e3
 subst e1 e3
 exact ⟨hs, ⟨fun h0 => (by rw [hA] at h0; cases h0), hc1, hc2⟩⟩
theorem WorkAt.state {w0 w : World} {g : Nat} {v : CV} {C : KCon} {t : TV} {s : KState} {gh gu gm : Nat} (h : WorkAt w0 w g v C t s gh gu gm) : StateAt w t s :=
 ⟨h.holders.toAt (fun u hu => by obtain ⟨x, _, rfl⟩ := List.mem_map.1 hu; rfl), h.used.toAt (fun u hu => by obtain ⟨x, _, rfl⟩ := List.mem_map.1 hu; rfl),
  h.marks.toAt (fun u hu => by
   obtain ⟨x, _, hx⟩ := List.mem_flatMap.1 hu
   simp only [KMark.cells, List.mem_cons, List.not_mem_nil, or_false] at hx
   rcases hx with rfl | rfl | rfl | rfl | rfl <;> rfl)⟩
theorem WorkAt.markSet {w0 w : World} {g : Nat} {v : CV} {C : KCon} {th tu : SV} {off tmc : Nat} {s : KState} {gh gu gm : Nat} (h : WorkAt w0 w g v C ⟨th, tu, ⟨some ⟨gm, off, none⟩, tmc⟩⟩ s gh gu gm) {i : Nat} {m : KMark} (hm : s.marks[i]? = some m) (a b c d : Int) (e : Bool) :
 WorkAt w0 (((((w.setCell ⟨gm, off + i * 5, none⟩ (.int .i64 a)).setCell ⟨gm, off + i * 5 + 1, none⟩ (.int .i64 b)).setCell ⟨gm, off + i * 5 + 2, none⟩ (.int .i64 c)).setCell ⟨gm, off + i * 5 + 3, none⟩ (.int .i64 d)).setCell ⟨gm, off + i * 5 + 4, none⟩ (.bool e)) g v C ⟨th, tu, ⟨some ⟨gm, off, none⟩, tmc⟩⟩ ⟨s.day, s.holders, s.used, s.marks.set i ⟨a, b, c, d, e⟩⟩ gh gu gm := by
 have him : i < s.marks.length := (List.getElem?_eq_some_iff.1 hm).1
 obtain ⟨m0, m1, m2, m3, m4⟩ := m
 have h1 := h.markCell (j := 0) (m' := ⟨a, m1, m2, m3, m4⟩) (u := .int .i64 a) hm (by omega) rfl
 have h2 := h1.markCell (i := i) (j := 1) (m := ⟨a, m1, m2, m3, m4⟩) (m' := ⟨a, b, m2, m3, m4⟩) (u := .int .i64 b) (by simp [him]) (by omega) rfl
 have h3 := h2.markCell (i := i) (j := 2) (m := ⟨a, b, m2, m3, m4⟩) (m' := ⟨a, b, c, m3, m4⟩) (u := .int .i64 c) (by simp [him]) (by omega) rfl
 have h4 := h3.markCell (i := i) (j := 3) (m := ⟨a, b, c, m3, m4⟩) (m' := ⟨a, b, c, d, m4⟩) (u := .int .i64 d) (by simp [him]) (by omega) rfl
 have h5 := h4.markCell (i := i) (j := 4) (m := ⟨a, b, c, d, m4⟩) (m' := ⟨a, b, c, d, e⟩) (u := .bool e) (by simp [him]) (by omega) rfl
 simpa only [List.set_set, Nat.add_zero] using h5
theorem WorkAt.holderCell {w0 w : World} {g : Nat} {v : CV} {C : KCon} {t : TV} {s : KState} {gh gu gm : Nat} (h : WorkAt w0 w g v C t s gh gu gm) :
 ∃ off, t.h.A = some ⟨gh, off, none⟩ ∧ gh < w.heap.size ∧ (∀ (i : Nat), i < s.holders.length → w.cell? ⟨gh, off + i, none⟩ = some (.int .i64 (holderAt s.holders i))) := by
 obtain ⟨off, hA, hc1, hc2, hgl, hcell, hfz⟩ := h.holders.at0
 refine ⟨off, hA, hgl, fun i hi => ?_⟩
 rw [hcell _ (by omega)]
 simp [ints, holderAt, hi]
end Go.Proofs.YtaielhafpmjkaaaGreatDoor
