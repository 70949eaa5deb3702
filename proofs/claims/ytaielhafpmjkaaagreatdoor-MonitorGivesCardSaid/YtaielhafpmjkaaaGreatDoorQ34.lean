/-
  FinP; MWatch; ClosedP; Few; Exam
-/
import Derived.Test.YtaielhafpmjkaaaGreatDoorQ33
import Derived.Test.YtaielhafpmjkaaaGreatDoorQ11
namespace Go.Proofs.YtaielhafpmjkaaaGreatDoor
theorem next_final {C : KCon} {s : KState} {x : Int} {j : Nat} {m : KMark} (h : s.marks[j]? = some m) (he : m.status = 3 ∨ m.status = 4 ∨ m.status = 5) : (C.next s x).marks[j]? = some m := by
 unfold KCon.next
 cases (x == -1) with
 | true => exact tick_final h he
 | false =>
  rw [cond_false]
  split
  · exact act_final h he
  · exact h
theorem Reach.final {C : KCon} {p : Int} {l : List KState} {j : Nat} {P : KMark → Prop} (hP : ∀ m, P m → m.status = 3 ∨ m.status = 4 ∨ m.status = 5) (hl : ∀ s ∈ l, ∃ m, s.marks[j]? = some m ∧ P m) {s : KState} (h : Reach C p l s) : ∃ m, s.marks[j]? = some m ∧ P m := by
 induction h with
 | base hs => exact hl _ hs
 | step _ _ _ ih =>
  obtain ⟨m, h1, h2⟩ := ih
  exact ⟨m, next_final h1 (hP m h2), h2⟩
theorem agreed_all {f : KState → Int} {l : List KState} {v : Int} (h : agreedK f l = v) (hv : v ≠ 0) : ∀ s ∈ l, f s = v := by
 cases l with
 | nil => exact absurd h.symm hv
 | cons a r =>
  have h : cond (r.all (fun x => f x == f a)) (f a) 0 = v := h
  cases hr : r.all (fun x => f x == f a) with
  | false => rw [hr, cond_false] at h; exact absurd h.symm hv
  | true =>
   rw [hr, cond_true] at h
   intro s hs
   rcases List.mem_cons.1 hs with rfl | hs
   · exact h
   · have := List.all_eq_true.1 hr s hs
     rw [beq_iff_eq] at this
     rw [this, h]
theorem agreed_of {f : KState → Int} {l : List KState} {v : Int} (hn : l ≠ []) (h : ∀ s ∈ l, f s = v) : agreedK f l = v := by
 cases l with
 | nil => exact absurd rfl hn
 | cons a r =>
  show cond (r.all (fun x => f x == f a)) (f a) 0 = v
  have hr : r.all (fun x => f x == f a) = true := List.all_eq_true.2 (fun s hs => by
   rw [beq_iff_eq, h s (List.mem_cons_of_mem _ hs), h a List.mem_cons_self])
  rw [hr, cond_true]
  exact h a List.mem_cons_self
theorem SeeOk.okBelief {C : KCon} {p x : Int} {b r : List KState} (h : SeeOk C p x b r) : C.okBelief ⟨p, r⟩ = true ∧ r ≠ [] := by
 obtain ⟨h1, _, hne, hc⟩ := h
 obtain ⟨_, _, _, h2, h3⟩ := okBelief_ok h1
 have hr : r ≠ [] := by
  obtain ⟨s, hs⟩ := List.exists_mem_of_ne_nil _ hne
  intro e
  have := hc.has s hs
  rw [e] at this
  cases this
 have hl : r.length ≠ 0 := fun e => hr (List.eq_nil_of_length_eq_zero e)
 refine ⟨?_, hr⟩
 unfold KCon.okBelief bv1 allOk
 simp only [Bool.and_eq_true, Bool.not_eq_true', decide_eq_false_iff_not, beq_eq_false_iff_ne, List.all_eq_true, ne_eq]
 have := hc.few
 exact ⟨⟨by omega, by omega, by omega, by omega⟩, fun s hs => (okState_iff C s).2 (hc.ok s hs)⟩
theorem meaning_ended {x v : Int} (h : meaningI x = v) (hv : v = 1 ∨ v = 3) : x = 3 ∨ x = 4 ∨ x = 5 := by
 unfold meaningI at h
 by_cases h3 : x = 3
 · exact .inl h3
 · by_cases h5 : x = 5
   · exact .inr (.inr h5)
   · by_cases h4 : x = 4
     · exact .inr (.inl h4)
     · have e3 : (x == 3) = false := by simpa using h3
       have e5 : (x == 5) = false := by simpa using h5
       have e4 : (x == 4) = false := by simpa using h4
       rw [e3, e5, e4] at h
       simp only [cond_false] at h
       revert h
       cases (x == 0) <;> cases (x == 1) <;> cases (x == 2) <;> simp only [cond_false, cond_true] <;> omega
theorem status_mark {s : KState} {x v : Int} (h : meaningI (statusAt s.marks x) = v) (hv : v = 1 ∨ v = 3) : ∃ m, s.marks[x.toNat]? = some m ∧ (m.status = 3 ∨ m.status = 4 ∨ m.status = 5) ∧ meaningI m.status = v := by
 have he := meaning_ended h hv
 unfold statusAt at h he
 cases hm : s.marks[x.toNat]? with
 | none => rw [hm] at he; simp at he
 | some m =>
  rw [hm] at h he
  simp only [Option.map_some, Option.getD_some] at h he
  exact ⟨m, rfl, he, h⟩
theorem verdict_final {C : KCon} {p x k v : Int} {b r : List KState} (h : SeeOk C p x b r) (hv : C.verdict ⟨p, b⟩ k = v) (h13 : v = 1 ∨ v = 3) : C.verdict ⟨p, r⟩ k = v := by
 obtain ⟨hok, hr⟩ := h.okBelief
 unfold KCon.verdict at hv ⊢
 cases q : verdict1 C ⟨p, b⟩ k with
 | false => rw [q, cond_false] at hv; omega
 | true =>
  rw [q, cond_true] at hv
  have q2 : verdict1 C ⟨p, r⟩ k = true := by
   unfold verdict1 at q ⊢
   rw [Bool.and_eq_true] at q ⊢
   exact ⟨hok, q.2⟩
  rw [q2, cond_true]
  have ha := agreed_all hv (by omega)
  refine agreed_of hr (fun s hs => ?_)
  obtain ⟨_, _, _, hc⟩ := h
  obtain ⟨m, hm, _, hmv⟩ := (hc.reach s hs).final (j := k.toNat) (P := fun m => (m.status = 3 ∨ m.status = 4 ∨ m.status = 5) ∧ meaningI m.status = v) (fun m h => h.1) (fun s0 hs0 => by
   unfold KCon.nexts at hs0
   obtain ⟨s1, h1, rfl⟩ := List.mem_map.1 hs0
   obtain ⟨m, hm, he, hmv⟩ := status_mark (ha s1 (List.mem_filter.1 h1).1) h13
   exact ⟨m, next_final hm he, he, hmv⟩)
  show meaningI (statusAt s.marks k) = v
  unfold statusAt
  rw [hm]
  exact hmv
theorem breach_mark {C : KCon} {s : KState} {q : Int} (h : C.breach s q = true) : ∃ (j : Nat) (m : KMark) (k : KClause), s.marks[j]? = some m ∧ C.clauses[j]? = some k ∧ failedBy k m q = true := by
 unfold KCon.breach at h
 rw [Bool.and_eq_true] at h
 have h2 := h.2
 unfold anyFailed at h2
 rw [List.any_eq_true] at h2
 obtain ⟨i, _, hi⟩ := h2
 cases e : s.marks[i]? with
 | none => rw [e] at hi; simp at hi
 | some m =>
  cases e2 : C.clauses[i]? with
  | none => rw [e, e2] at hi; simp at hi
  | some k => rw [e, e2] at hi; exact ⟨i, m, k, e, e2, hi⟩
theorem breach_next {C : KCon} {s s' : KState} {q : Int} (h : C.breach s q = true) (hn : ∃ x, s' = C.next s x) (hok : StateOk C s') : C.breach s' q = true := by
 obtain ⟨j, m, k, hm, hk, hf⟩ := breach_mark h
 obtain ⟨x, rfl⟩ := hn
 have hst : m.status = 4 := by
  unfold failedBy at hf
  simp only [Bool.and_eq_true, beq_iff_eq] at hf
  exact hf.2.1
 unfold KCon.breach at h ⊢
 rw [Bool.and_eq_true] at h ⊢
 refine ⟨?_, anyFailed_yes (next_final hm (.inr (.inl hst))) hk hf⟩
 have h1 := h.1
 unfold br1 at h1 ⊢
 simp only [Bool.and_eq_true] at h1 ⊢
 exact ⟨h1.1, h1.2.1, (okState_iff C _).2 hok⟩
theorem Reach.breach {C : KCon} {p q : Int} {l : List KState} (hl : ∀ s ∈ l, StateOk C s ∧ C.breach s q = true) {s : KState} (h : Reach C p l s) : StateOk C s ∧ C.breach s q = true := by
 induction h with
 | base hs => exact hl _ hs
 | step _ hd hx ih =>
  have h1 := (hid_next ih.1 hd hx).1
  exact ⟨h1, breach_next ih.2 ⟨_, rfl⟩ h1⟩
theorem blames_final {C : KCon} {p x q : Int} {b r : List KState} (h : SeeOk C p x b r) (hv : C.blames ⟨p, b⟩ q = 3) : C.blames ⟨p, r⟩ q = 3 := by
 obtain ⟨hok, hr⟩ := h.okBelief
 unfold KCon.blames at hv ⊢
 cases e : blames1 C ⟨p, b⟩ q with
 | false => rw [e, cond_false] at hv; omega
 | true =>
  rw [e, cond_true] at hv
  have e2 : blames1 C ⟨p, r⟩ q = true := by
   unfold blames1 at e ⊢
   rw [Bool.and_eq_true] at e ⊢
   exact ⟨hok, e.2⟩
  rw [e2, cond_true]
  have ha := agreed_all hv (by omega)
  obtain ⟨hb, hst, hne, hc⟩ := h
  have hbo := (okBelief_ok hb).1
  refine agreed_of hr (fun s hs => ?_)
  have h1 := (hc.reach s hs).breach (q := q) (fun s0 hs0 => by
   unfold KCon.nexts at hs0
   obtain ⟨s1, h1, rfl⟩ := List.mem_map.1 hs0
   obtain ⟨hm, hf⟩ := List.mem_filter.1 h1
   unfold fits at hf
   simp only [Bool.and_eq_true, Bool.not_eq_true', decide_eq_false_iff_not] at hf
   have h2 := (step_fits hst (hbo s1 hm) (by omega)).2
   have h3 : C.breach s1 q = true := by
    have := ha s1 hm
    cases hbr : C.breach s1 q with
    | true => rfl
    | false => rw [hbr] at this; exact absurd this (by decide)
   exact ⟨h2, breach_next h3 ⟨_, rfl⟩ h2⟩)
  show blameI (C.breach s q) = 3
  rw [h1.2]
  rfl
end Go.Proofs.YtaielhafpmjkaaaGreatDoor
namespace Go.Proofs.YtaielhafpmjkaaaGreatDoor
open Go.RowKit Go.Shelf
inductive Watched (C : KCon) (p : Int) : List Int → List KState → Prop
 | nil {r : List KState} : C.startOk p → IsClo C p [C.first] r → Watched C p [] r
 | snoc {l : List Int} {r r' : List KState} {x : Int} : Watched C p l r → AfterOk C p x r r' → Watched C p (l ++ [x]) r'
def WatchOk (C : KCon) (p : Int) (l : List Int) (r : List KState) : Prop := l.length ≤ 4000 ∧ Watched C p l r
def WatchEr (C : KCon) (p : Int) (l : List Int) (er : Int) : Prop :=
 StartEr C p er ∨ (er = 3 ∧ 4000 < l.length) ∨ ∃ (k : Nat) (r : List KState) (x : Int), l[k]? = some x ∧ Watched C p (l.take k) r ∧ AfterEr C p x r er
theorem Watched.clo {C : KCon} {p : Int} {l : List Int} {r : List KState} (h : Watched C p l r) : ∃ b, IsClo C p b r := by
 cases h with
 | nil _ h => exact ⟨_, h⟩
 | snoc _ h => exact ⟨_, h.2.2⟩
theorem box2 {W : World} {g : Nat} {a b : Value} {t : TypeId} (h : W.heap[g]? = some (.cells #[a, b] t (0, 0))) : W.cell? ⟨g, 0, none⟩ = some a ∧ W.cell? ⟨g, 1, none⟩ = some b ∧ W.frozen? ⟨g, 0, none⟩ = false ∧ W.frozen? ⟨g, 1, none⟩ = false :=
 ⟨(cell_of_row W _ 0 _ _ _ h).trans rfl, (cell_of_row W _ 1 _ _ _ h).trans rfl, by simp [World.frozen?, h], by simp [World.frozen?, h]⟩
theorem box2_set {W : World} {g : Nat} {a b x y : Value} {t : TypeId} (h : W.heap[g]? = some (.cells #[a, b] t (0, 0))) : ((W.setCell ⟨g, 0, none⟩ x).setCell ⟨g, 1, none⟩ y).heap[g]? = some (.cells #[x, y] t (0, 0)) := by
 have h1 := heap_setCell_same (i := 0) h x
 have h2 := heap_setCell_same (i := 1) h1 y
 rw [h2]
 rfl
set_option maxRecDepth 100000 in
set_option maxHeartbeats 1000000 in
theorem watch_any (v : CV) (C : KCon) (p : Int) (lv : SV) (l : List Int) (w : World) (hC : ConAt w v C) (hV : At w 1 lv.A l.length lv.c (ints l)) (hT : Tab w) : Calls Tryz.prog 18 #[v.val C, .int .i64 p, .slice lv.A l.length lv.c] w (BelPost p (WatchOk C p l) (WatchEr C p l) w) := by
 obtain ⟨⟨vhA, vhc⟩, ⟨vuA, vuc⟩, ⟨vaA, vac⟩, ⟨vkA, vkc⟩, ⟨voA, voc⟩⟩ := v
 obtain ⟨lA, lc⟩ := lv
 have hlx : l.length ≤ 9223372036854775807 := by have h1 := hV.2.2.1; have h2 := hV.2.2.2; unfold maxLen at h2; omega
 have HC := Lib.hid hC; clear hC
 have HV := Lib.hid hV; clear hV
 have HT := Lib.hid hT; clear hT
 simp only [CV.val, CV.cells]
 go_enter Tryz.func18, Tryz.ntmps18
 go_upto_region 1 with (fail)
 generalize hW0 : World.alloc _ _ = W0
 obtain ⟨HB, hh0, hh1⟩ := bx2 hW0
 clear hW0
 obtain ⟨k0_0, k0_1, k0_2, k0_3, k0_4, k0_5, k0_6⟩ := kc7 hh0
 clear hh0
 obtain ⟨k1_0, k1_1⟩ := kc2 hh1
 have f1_0 := fcell (i := 0) hh1
 have f1_1 := fcell (i := 1) hh1
 have hl1 := lt_of_heap hh1
 clear hh1
 change Code.wp _ _ _ _ (Bl.val (⟨W0, Below.refl _ _⟩ : Bl W0))
 generalize (⟨W0, Below.refl _ _⟩ : Bl W0) = s0
 have HMS : Hid (∀ z : Bl W0, Calls Tryz.prog 33 #[.agg #[.int .i64 C.parties, .slice vhA C.holders.length vhc, .slice vuA C.units.length vuc, .slice vaA C.acts.length vac, .slice vkA C.clauses.length vkc, .int .i64 C.days, .slice voA C.off.length voc], .int .i64 p] z.val (BelPost p (fun r => C.startOk p ∧ IsClo C p [C.first] r) (StartEr C p) z.val)) := fun z => mstart_any (⟨⟨vhA, vhc⟩, ⟨vuA, vuc⟩, ⟨vaA, vac⟩, ⟨vkA, vkc⟩, ⟨voA, voc⟩⟩ : CV) C p z.val (HC.out.below (Below.step HB.out z.prop)) (HT.out.below (Below.step HB.out z.prop))
 go_wp2_with (go_at_call 33; refine (HMS.out _).mono ?_; rintro e z1 ⟨q, A, c, r, er, rfl, hb1, hcase⟩; refine Hid.out ?_)
 refine Lib.hid ?_
 obtain ⟨zb, HZB⟩ : ∃ zb : Bl W0, Hid (Below zb.val.heap.size zb.val z1 ∧ ((er = 0 ∧ q = p ∧ StatesN zb.val.heap.size z1 ⟨A, c⟩ r ∧ C.startOk p ∧ IsClo C p [C.first] r) ∨ (er ≠ 0 ∧ q = 0 ∧ A = none ∧ c = 0 ∧ r = [] ∧ StartEr C p er))) := ⟨_, hb1, hcase⟩
 clear hb1 hcase
 go_upto_region 2 with (fail)
 obtain ⟨Wa, HWa⟩ : ∃ Wa, Hid (Wa = z1.alloc (.cells #[.int .i64 q, .slice A r.length c] 30)) := ⟨_, rfl⟩
 rw [← HWa.out]
 have hba : Below z1.heap.size z1 Wa := by rw [HWa.out]; exact Below.alloc' (Below.refl _ _) _
 have hax : Wa.heap[z1.heap.size]? = some (.cells #[.int .i64 q, .slice A r.length c] 30 (0, 0)) := by rw [HWa.out]; exact heap_alloc_new z1 _
 have HPZ : Hid (Below W0.heap.size W0 z1) := Below.step zb.prop HZB.out.1
 have HPA : Hid (Below W0.heap.size W0 Wa) := Below.step HPZ.out hba
 have HBX := Lib.hid hax; clear hax
 obtain ⟨bx, hbx⟩ : ∃ bx, bx = z1.heap.size := ⟨_, rfl⟩
 have hbl : W0.heap.size ≤ bx := by rw [hbx]; exact HPZ.out.size
 rw [← hbx]
 rw [← hbx] at HBX
 have HBA := Lib.hid hba; clear hba
 clear hbx
 cases q1 : (er == 0) with
 | false =>
  have qn : ¬ (er = 0) := by rw [beq_eq_false_iff_ne] at q1; exact q1
  have c0 := k1_0 ⟨Wa, HPA.out⟩
  have c1 := k1_1 ⟨Wa, HPA.out⟩
  have u0 := f1_0 ⟨Wa, HPA.out⟩
  have u1 := f1_1 ⟨Wa, HPA.out⟩
  simp only at c0 c1 u0 u1
  have HER : Hid (StartEr C p er) := by
   rcases HZB.out.2 with ⟨e1, _⟩ | ⟨_, _, _, _, _, e6⟩
   · exact absurd e1 qn
   · exact e6
  go_wp2
  obtain ⟨Wf, HWf⟩ : ∃ Wf, Hid (Wf = (Wa.setCell ⟨w.heap.size + 1, 0, none⟩ (.int .i64 0)).setCell ⟨w.heap.size + 1, 1, none⟩ (.slice none 0 0)) := ⟨_, rfl⟩
  rw [← HWf.out]
  obtain ⟨g0, g1, hUf⟩ := stored2 c0 c1 HWf.out
  refine bodyPost_ret (v := .tuple #[.agg #[.int .i64 0, .slice none 0 0], .int .i64 er]) (by simp [results, Tryz.results18, go_sem, g0, g1]) rfl ⟨0, none, 0, [], er, rfl, ?_, .inr ⟨qn, rfl, rfl, rfl, rfl, .inl HER.out⟩⟩
  exact (HB.out.trans (HPA.out.mono HB.out.size)).trans (hUf.below (by have := HPA.out.size; have := HB.out.size; omega) (fun k hk => by omega))
 | true =>
  obtain rfl : er = 0 := by rw [beq_iff_eq] at q1; exact q1
  obtain ⟨HQ, HSN, HWT⟩ : Hid (q = p) ∧ Hid (StatesN W0.heap.size Wa ⟨A, c⟩ r) ∧ Hid (Watched C p (l.take 0) r) := by
   rcases HZB.out.2 with ⟨_, e2, e3, e4, e5⟩ | ⟨e1, _⟩
   · exact ⟨e2, (e3.below HBA.out).mono zb.prop.size, .nil e4 e5⟩
   · exact absurd rfl e1
  have hq := HQ.out
  subst hq
  clear HQ q1 HZB
  by_cases h4 : 4000 < l.length
  · have c0 := k1_0 ⟨Wa, HPA.out⟩
    have c1 := k1_1 ⟨Wa, HPA.out⟩
    have u0 := f1_0 ⟨Wa, HPA.out⟩
    have u1 := f1_1 ⟨Wa, HPA.out⟩
    simp only at c0 c1 u0 u1
    go_wp2
    obtain ⟨Wf, HWf⟩ : ∃ Wf, Hid (Wf = (Wa.setCell ⟨w.heap.size + 1, 0, none⟩ (.int .i64 0)).setCell ⟨w.heap.size + 1, 1, none⟩ (.slice none 0 0)) := ⟨_, rfl⟩
    rw [← HWf.out]
    obtain ⟨g0, g1, hUf⟩ := stored2 c0 c1 HWf.out
    refine bodyPost_ret (v := .tuple #[.agg #[.int .i64 0, .slice none 0 0], .int .i64 3]) (by simp [results, Tryz.results18, go_sem, g0, g1]) rfl ⟨0, none, 0, [], 3, rfl, ?_, .inr ⟨by decide, rfl, rfl, rfl, rfl, .inr (.inl ⟨rfl, h4⟩)⟩⟩
    exact (HB.out.trans (HPA.out.mono HB.out.size)).trans (hUf.below (by have := HPA.out.size; have := HB.out.size; omega) (fun k hk => by omega))
  · go_wp2
    go_loopg [28, 9] l.length (fun gk v28 v9 wr => ∃ (k : Nat) (r : List KState) (A : Option Addr) (c : Nat), gk = l.length - k ∧ k ≤ l.length ∧ v28 = .int .i64 k ∧ v9 = .int .i64 0 ∧ Hid (Watched C q (l.take k) r) ∧ Hid (wr.heap[bx]? = some (.cells #[.int .i64 q, .slice A r.length c] 30 (0, 0))) ∧ Hid (StatesN W0.heap.size wr ⟨A, c⟩ r) ∧ Hid (Below W0.heap.size W0 wr))
    case atStart => exact ⟨0, r, A, c, rfl, Nat.zero_le _, rfl, rfl, HWT, HBX, HSN, HPA⟩
    case round =>
     clear HWT HBX HSN HPA HBA HWa
     obtain ⟨k, r, A, c, hgk, hk, rfl, rfl, HWT, HBX, HSN, HW⟩ := hrel
     have HGK := Lib.hid hgk; clear hgk
     obtain ⟨b0, b1, b2, b3⟩ := box2 HBX.out
     by_cases hlt : k < l.length
     · obtain ⟨x, hx⟩ : ∃ x, l[k]? = some x := ⟨_, List.getElem?_eq_getElem hlt⟩
       obtain ⟨tb, toff, hTA, _, htc⟩ := (HV.out.below (by omega) (Below.step HB.out HW.out)).1.form (by omega) (by omega)
       subst hTA
       have ct : wr.cell? ⟨tb, toff + k, none⟩ = some (.int .i64 x) := by
        rw [htc k (by omega), ints, List.getElem?_map, hx]
        rfl
       have HXX := Lib.hid hx
       have HTX := Lib.hid (take_snoc' hx); clear hx htc
       have k0 : (0 : Int) ≤ (k : Int) := by omega
       have k1 : (k : Int) < (l.length : Int) := by omega
       have hbxl := lt_of_heap HBX.out
       have HAF : Hid (Calls Tryz.prog 43 #[.agg #[.int .i64 C.parties, .slice vhA C.holders.length vhc, .slice vuA C.units.length vuc, .slice vaA C.acts.length vac, .slice vkA C.clauses.length vkc, .int .i64 C.days, .slice voA C.off.length voc], .agg #[.int .i64 q, .slice A r.length c], .int .i64 x] wr (BelPost q (AfterOk C q x r) (AfterEr C q x r) wr)) := by
        obtain ⟨b, hclo⟩ := HWT.out.clo
        exact after_any (⟨⟨vhA, vhc⟩, ⟨vuA, vuc⟩, ⟨vaA, vac⟩, ⟨vkA, vkc⟩, ⟨voA, voc⟩⟩ : CV) C q x ⟨A, c⟩ r wr (HC.out.below (Below.step HB.out HW.out)) HSN.out.at hclo.ok (HT.out.below (Below.step HB.out HW.out)) (by have := hclo.few; omega)
       have y0 := k0_0 ⟨wr, HW.out⟩
       have y1 := k0_1 ⟨wr, HW.out⟩
       have y2 := k0_2 ⟨wr, HW.out⟩
       have y3 := k0_3 ⟨wr, HW.out⟩
       have y4 := k0_4 ⟨wr, HW.out⟩
       have y5 := k0_5 ⟨wr, HW.out⟩
       have y6 := k0_6 ⟨wr, HW.out⟩
       simp only at y0 y1 y2 y3 y4 y5 y6
       go_wp2_with (go_at_call 43; refine HAF.out.mono ?_; rintro e z2 ⟨q', A', c', r', er', rfl, hb2, hcase⟩; refine Hid.out ?_)
       refine Lib.hid ?_
       have HCS := Lib.hid hcase; clear hcase
       have HB2 := Lib.hid hb2; clear hb2
       have HBX2 : Hid (z2.heap[bx]? = some (.cells #[.int .i64 q, .slice A r.length c] 30 (0, 0))) := (HB2.out.block bx hbxl).trans HBX.out
       clear b0 b1 b2 b3 y0 y1 y2 y3 y4 y5 y6 ct
       obtain ⟨b0, b1, b2, b3⟩ := box2 HBX2.out
       have HPZ2 : Hid (Below W0.heap.size W0 z2) := Below.step HW.out HB2.out
       go_upto_region 10 with (fail)
       obtain ⟨Wb, HWb⟩ : ∃ Wb, Hid (Wb = (z2.setCell ⟨bx, 0, none⟩ (.int .i64 q')).setCell ⟨bx, 1, none⟩ (.slice A' r'.length c')) := ⟨_, rfl⟩
       rw [← HWb.out]
       have HBX3 : Hid (Wb.heap[bx]? = some (.cells #[.int .i64 q', .slice A' r'.length c'] 30 (0, 0))) := by
        show _ = _
        rw [HWb.out]
        exact box2_set HBX2.out
       have HUB : Hid (Upd (fun k => k = bx) z2 Wb) := (stored2 b0 b1 HWb.out).2.2
       have HPB : Hid (Below W0.heap.size W0 Wb) := HPZ2.out.trans (HUB.out.below HPZ2.out.size (fun k hk => by omega))
       clear b0 b1 b2 b3
       cases q1 : (er' == 0) with
       | false =>
        have qn : ¬ (er' = 0) := by rw [beq_eq_false_iff_ne] at q1; exact q1
        have c0 := k1_0 ⟨Wb, HPB.out⟩
        have c1 := k1_1 ⟨Wb, HPB.out⟩
        have u0 := f1_0 ⟨Wb, HPB.out⟩
        have u1 := f1_1 ⟨Wb, HPB.out⟩
        simp only at c0 c1 u0 u1
        have HER : Hid (AfterEr C q x r er') := by
         rcases HCS.out with ⟨e1, _⟩ | ⟨_, _, _, _, _, e6⟩
         · exact absurd e1 qn
         · exact e6
        go_wp2
        try rw [Exit.noGoto_ret]
        obtain ⟨Wf, HWf⟩ : ∃ Wf, Hid (Wf = (Wb.setCell ⟨w.heap.size + 1, 0, none⟩ (.int .i64 0)).setCell ⟨w.heap.size + 1, 1, none⟩ (.slice none 0 0)) := ⟨_, rfl⟩
        rw [← HWf.out]
        obtain ⟨g0, g1, hUf⟩ := stored2 c0 c1 HWf.out
        refine bodyPost_ret (v := .tuple #[.agg #[.int .i64 0, .slice none 0 0], .int .i64 er']) (by simp [results, Tryz.results18, go_sem, g0, g1]) rfl ⟨0, none, 0, [], er', rfl, ?_, .inr ⟨qn, rfl, rfl, rfl, rfl, .inr (.inr ⟨k, r, x, HXX.out, HWT.out, HER.out⟩)⟩⟩
        exact (HB.out.trans (HPB.out.mono HB.out.size)).trans (hUf.below (by have := HPB.out.size; have := HB.out.size; omega) (fun k hk => by omega))
       | true =>
        obtain rfl : er' = 0 := by rw [beq_iff_eq] at q1; exact q1
        obtain ⟨HQ2, HSN2, HAO⟩ : Hid (q' = q) ∧ Hid (StatesN W0.heap.size Wb ⟨A', c'⟩ r') ∧ Hid (AfterOk C q x r r') := by
         rcases HCS.out with ⟨_, e2, e3, e4⟩ | ⟨e1, _⟩
         · exact ⟨e2, (e3.updLow HUB.out (fun k hk => by omega)).mono HW.out.size, e4⟩
         · exact absurd rfl e1
        have hq := HQ2.out
        subst hq
        have HWT2 : Hid (Watched C q' (l.take (k + 1)) r') := by
         show Watched _ _ _ _
         rw [HTX.out]
         exact .snoc HWT.out HAO.out
        clear HQ2 q1
        go_wp2
        go_roundg (l.length - (k + 1))
        case measure => rw [HGK.out]; omega
        case rel => exact ⟨k + 1, r', A', c', rfl, by omega, by go_num, rfl, HWT2, HBX3, HSN2, HPB⟩
     · obtain rfl : k = l.length := by omega
       have HWL : Hid (WatchOk C q l r) := ⟨by omega, by have := HWT.out; rw [List.take_length] at this; exact this⟩
       have c0 := k1_0 ⟨wr, HW.out⟩
       have c1 := k1_1 ⟨wr, HW.out⟩
       have u0 := f1_0 ⟨wr, HW.out⟩
       have u1 := f1_1 ⟨wr, HW.out⟩
       simp only at c0 c1 u0 u1
       go_wp2
       try rw [Exit.noGoto_ret]
       obtain ⟨Wf, HWf⟩ : ∃ Wf, Hid (Wf = (wr.setCell ⟨w.heap.size + 1, 0, none⟩ (.int .i64 q)).setCell ⟨w.heap.size + 1, 1, none⟩ (.slice A r.length c)) := ⟨_, rfl⟩
       rw [← HWf.out]
       obtain ⟨g0, g1, hUf⟩ := stored2 c0 c1 HWf.out
       refine bodyPost_ret (v := .tuple #[.agg #[.int .i64 q, .slice A r.length c], .int .i64 0]) (by simp [results, Tryz.results18, go_sem, g0, g1]) rfl ⟨q, A, c, r, 0, rfl, ?_, .inl ⟨rfl, rfl, ?_, HWL.out⟩⟩
       · exact (HB.out.trans (HW.out.mono HB.out.size)).trans (hUf.below (by have := HW.out.size; have := HB.out.size; omega) (fun k hk => by omega))
       · exact (HSN.out.updLow hUf (fun k hk => by omega)).mono HB.out.size
end Go.Proofs.YtaielhafpmjkaaaGreatDoor
namespace Go.Proofs.YtaielhafpmjkaaaGreatDoor
open Go.RowKit
theorem getD_set_self {l : List Bool} {i : Nat} (h : i < l.length) : (l.set i true).getD i false = true := by simp [List.getD, h]
theorem getD_set_keep {l : List Bool} {i j : Nat} (h : l.getD i false = true) : (l.set j true).getD i false = true := by
 by_cases e : j = i
 · subst e
   refine getD_set_self ?_
   rcases Nat.lt_or_ge j l.length with h1 | h1
   · exact h1
   · rw [List.getD, List.getElem?_eq_none h1] at h; cases h
 · rw [List.getD, List.getElem?_set_ne e]; exact h
theorem natural_range {C : KCon} {x : Int} (h : C.natural x = true) : 0 ≤ x ∧ x.toNat < C.acts.length := by
 unfold KCon.natural KCon.actAt at h
 by_cases h0 : 0 ≤ x
 · rw [if_pos h0] at h
   refine ⟨h0, ?_⟩
   rcases Nat.lt_or_ge x.toNat C.acts.length with h1 | h1
   · exact h1
   · rw [List.getElem?_eq_none h1] at h; cases h
 · rw [if_neg h0] at h; cases h
theorem nameOne_keep {C : KCon} {ms : List KMark} {j i : Nat} {l : List Bool} (h : l.getD i false = true) : (nameOne C ms j l).getD i false = true := by
 unfold nameOne
 split
 · rename_i k m _ _
   cases m.runs with
   | false => exact h
   | true =>
    cases (k.pause == -1) with
    | false => exact getD_set_keep (getD_set_keep (getD_set_keep h))
    | true => exact getD_set_keep h
 · exact h
theorem namedTo_keep {C : KCon} {ms : List KMark} {i n : Nat} (h : (namedTo C ms n).getD i false = true) : ∀ d, (namedTo C ms (n + d)).getD i false = true
 | 0 => h
 | d + 1 => nameOne_keep (namedTo_keep h d)
theorem namedTo_has {C : KCon} {ms : List KMark} {n j : Nat} {m : KMark} {k : KClause} (hj : j < n) (hm : ms[j]? = some m) (hk : C.clauses[j]? = some k) (hr : m.runs = true) (hok : ClauseOk C j k) {i : Nat} (hi : k.act = i ∨ k.pause = i ∨ k.resume = i) : (namedTo C ms n).getD i false = true := by
 have h1 : (namedTo C ms (j + 1)).getD i false = true := by
  rw [namedTo]
  unfold nameOne
  have hl := namedTo_len C ms j
  simp only [hm, hk, hr, cond_true]
  have nat : ∀ x : Int, C.natural x = true → x.toNat < C.acts.length := fun x hx => (natural_range hx).2
  have ha := hok.act0
  have hb := hok.act1
  cases q : (k.pause == -1) with
  | true =>
   rw [beq_iff_eq] at q
   simp only [cond_true]
   rcases hi with e | e | e
   · rw [e]; exact getD_set_self (by rw [hl]; omega)
   · omega
   · have h3 := (hok.pause (.inr (by omega))).2.1
     have := (natural_range h3).1
     omega
  | false =>
   have q' : k.pause ≠ -1 := by simpa using q
   obtain ⟨_, h3, h4⟩ := hok.pause (.inl q')
   have n3 := nat _ h3
   have n4 := nat _ h4
   simp only [cond_false]
   rcases hi with e | e | e
   · rw [e]; exact getD_set_keep (getD_set_keep (getD_set_self (by rw [hl]; omega)))
   · rw [e] at n3 ⊢; exact getD_set_keep (getD_set_self (by rw [List.length_set, hl]; omega))
   · rw [e] at n4 ⊢; exact getD_set_self (by rw [List.length_set, List.length_set, hl]; omega)
 have := namedTo_keep h1 (n - (j + 1))
 rwa [show j + 1 + (n - (j + 1)) = n by omega] at this
theorem unseen {C : KCon} {s : KState} {p : Int} (hO : StateOk C s) (hp0 : 0 ≤ p) (hp1 : p < C.parties) {i : Nat} (hi : i < C.acts.length) (h : C.sees s p i = false) : (i : Int) ∈ C.hid s p ∨ C.next s i = s := by
 obtain ⟨a, ha⟩ : ∃ a, C.acts[i]? = some a := ⟨C.acts[i], List.getElem?_eq_getElem hi⟩
 have hsk : seesK s a p = false := by
  unfold KCon.sees KCon.seesAt at h
  have h1 : C.okState s = true := (okState_iff C s).2 hO
  have h2 : decide (0 ≤ p) = true := by simpa using hp0
  have h3 : decide (p < C.parties) = true := by simpa using hp1
  have h4 : decide ((0 : Int) ≤ i) = true := by simp
  have h5 : decide ((i : Int) < C.acts.length) = true := by simpa using hi
  simpa only [h1, h2, h3, h4, h5, Bool.true_and, Int.toNat_natCast, ha] using h
 have hkt : (a.kind == 1) = true ∧ (a.tgt == -1) = false := by
  unfold seesK seesB at hsk
  cases q1 : (a.kind == 1) <;> cases q2 : (a.tgt == -1) <;> simp [q1, q2] at hsk ⊢
 cases hn : (namedTo C s.marks s.marks.length).getD i false with
 | true =>
  left
  unfold KCon.hid hidTo
  refine List.mem_map.2 ⟨i, List.mem_filter.2 ⟨List.mem_range.2 hi, ?_⟩, rfl⟩
  unfold hidB
  simp only [ha, hn, hkt.1, hkt.2, h]
  rfl
 | false =>
  right
  rw [next_act ha]
  refine act_same hO (by simpa using hkt.1) (fun j m k hm hk hr => ?_)
  have hjl : j < s.marks.length := (List.getElem?_eq_some_iff.1 hm).1
  have hcl := (KCon.ok hO.con).clause hk
  have key : ∀ x : Int, (k.act = x ∨ k.pause = x ∨ k.resume = x) → x ≠ i := fun x hx e => by
   subst e
   rw [namedTo_has hjl hm hk hr hcl hx] at hn
   cases hn
  exact ⟨key _ (.inl rfl), key _ (.inr (.inl rfl)), key _ (.inr (.inr rfl))⟩
theorem IsClo.unseen {C : KCon} {p : Int} {l r : List KState} (h : IsClo C p l r) {s : KState} (hs : s ∈ r) (hd : s.day < C.days) (hp0 : 0 ≤ p) (hp1 : p < C.parties) {i : Nat} (hi : i < C.acts.length) (hn : C.sees s p i = false) : C.next s i ∈ r := by
 rcases Go.Proofs.YtaielhafpmjkaaaGreatDoor.unseen (h.ok s hs) hp0 hp1 hi hn with h1 | h1
 · exact h.closed s hs hd _ h1
 · rw [h1]; exact hs
theorem Watched.party {C : KCon} {p : Int} {l : List Int} {r : List KState} (h : Watched C p l r) : C.startOk p := by
 induction h with
 | nil h _ => exact h
 | snoc _ _ ih => exact ih
theorem Watched.some {C : KCon} {p : Int} {l : List Int} {r : List KState} (h : Watched C p l r) : r ≠ [] := by
 cases h with
 | nil _ h => exact List.ne_nil_of_mem (h.has _ (List.mem_singleton.2 rfl))
 | snoc _ h =>
  obtain ⟨s, hs⟩ := List.exists_mem_of_ne_nil _ h.2.1
  exact List.ne_nil_of_mem (h.2.2.has s hs)
end Go.Proofs.YtaielhafpmjkaaaGreatDoor
namespace Go.Proofs.YtaielhafpmjkaaaGreatDoor
open Go.RowKit Go.Shelf
def SomeB (w : World) (e : Ending) (w' : World) : Prop := ∃ x : Bool, e = .returned (.bool x) ∧ Below w.heap.size w w'
set_option maxRecDepth 100000 in
set_option maxHeartbeats 1000000 in
theorem small_any (v : CV) (C : KCon) (n : Int) (w : World) (hC : ConAt w v C) : Calls Tryz.prog 57 #[v.val C, .int .i64 n] w (SomeB w) := by
 obtain ⟨⟨vhA, vhc⟩, ⟨vuA, vuc⟩, ⟨vaA, vac⟩, ⟨vkA, vkc⟩, ⟨voA, voc⟩⟩ := v
 have hx1 : C.holders.length ≤ 9223372036854775807 := by have h1 := hC.holders.2.2.1; have h2 := hC.holders.2.2.2; unfold maxLen at h2; omega
 have hx2 : C.units.length ≤ 9223372036854775807 := by have h1 := hC.units.2.2.1; have h2 := hC.units.2.2.2; unfold maxLen at h2; omega
 have hx3 : C.acts.length ≤ 9223372036854775807 := by have h1 := hC.acts.2.2.1; have h2 := hC.acts.2.2.2; unfold maxLen at h2; omega
 have hx6 : C.off.length ≤ 9223372036854775807 := by have h1 := hC.off.2.2.1; have h2 := hC.off.2.2.2; unfold maxLen at h2; omega
 have hx4 : C.clauses.length ≤ 9223372036854775807 := by
  obtain ⟨ss, g1, g2, g3⟩ := hC.clauses
  have h1 := g2.2.2.1; have h2 := g2.2.2.2; unfold maxLen at h2; omega
 have HC := Lib.hid hC; clear hC
 simp only [CV.val, CV.cells]
 go_enter Tryz.func57, Tryz.ntmps57
 go_upto_region 1 with (fail)
 generalize hW0 : World.alloc _ _ = W0
 obtain ⟨HB, hh0⟩ := bx1 hW0
 clear hW0
 obtain ⟨k0_0, k0_1, k0_2, k0_3, k0_4, k0_5, k0_6⟩ := kc7 hh0
 clear hh0
 change Code.wp _ _ _ _ (Bl.val (⟨W0, Below.refl _ _⟩ : Bl W0))
 generalize (⟨W0, Below.refl _ _⟩ : Bl W0) = s0
 cases q0 : decide (20 < (C.holders.length : Int)) with
 | true =>
  go_wp2
  go_ret
  exact ⟨false, rfl, Below.step HB.out (Bl.prop _)⟩
 | false =>
  cases q1 : decide (30 < (C.units.length : Int)) with
  | true =>
   go_wp2
   go_ret
   exact ⟨false, rfl, Below.step HB.out (Bl.prop _)⟩
  | false =>
   cases q2 : decide (70 < (C.acts.length : Int)) with
   | true =>
    go_wp2
    go_ret
    exact ⟨false, rfl, Below.step HB.out (Bl.prop _)⟩
   | false =>
    cases q3 : decide (n < (C.clauses.length : Int)) with
    | true =>
     go_wp2
     go_ret
     exact ⟨false, rfl, Below.step HB.out (Bl.prop _)⟩
    | false =>
     cases q4 : decide (100 < (C.off.length : Int)) with
     | true =>
      go_wp2
      go_ret
      exact ⟨false, rfl, Below.step HB.out (Bl.prop _)⟩
     | false =>
      go_wp2
      go_loopg [5] C.clauses.length (fun gk v5 wr => ∃ (j : Nat) (z : Bl W0), gk = C.clauses.length - j ∧ j ≤ C.clauses.length ∧ v5 = .int .i64 j ∧ wr = z.val)
      case atStart => exact ⟨0, _, rfl, Nat.zero_le _, rfl, rfl⟩
      case round =>
       obtain ⟨j, z, hgk, hj, rfl, rfl⟩ := hrel
       have HGK := Lib.hid hgk; clear hgk
       by_cases hlt : j < C.clauses.length
       · obtain ⟨k, hk⟩ : ∃ k, C.clauses[j]? = some k := ⟨_, List.getElem?_eq_getElem hlt⟩
         obtain ⟨kb, koff, st, hKA, hkb, hkc, hsa⟩ := (HC.out.below (Below.step HB.out z.prop)).clause hk
         simp only at hKA
         subst hKA
         have hsl : k.start.length ≤ 9223372036854775807 := by have h1 := hsa.2.2.1; have h2 := hsa.2.2.2; unfold maxLen at h2; omega
         have x4 : z.val.cell? ⟨kb, koff + j * 16 + 4, none⟩ = some (.slice st.A k.start.length st.c) := hkc z.val (Below.refl _ _) 4 (by omega)
         clear hkc hsa hk
         have j0 : (0 : Int) ≤ (j : Int) := by omega
         have j1 : (j : Int) < (C.clauses.length : Int) := by omega
         cases qs : decide (20 < (k.start.length : Int)) with
         | true =>
          go_wp2
          go_ret
          exact ⟨false, rfl, Below.step HB.out (Bl.prop _)⟩
         | false =>
          go_wp2
          go_roundg (C.clauses.length - (j + 1))
          case measure => rw [HGK.out]; omega
          case rel => exact ⟨j + 1, z, rfl, by omega, by go_num, rfl⟩
       · obtain rfl : j = C.clauses.length := by omega
         go_wp2
         go_ret
         exact ⟨true, rfl, Below.step HB.out (Bl.prop _)⟩
set_option maxRecDepth 100000 in
set_option maxHeartbeats 1000000 in
theorem tame_any (v : CV) (C : KCon) (w : World) (hC : ConAt w v C) : Calls Tryz.prog 34 #[v.val C] w (SomeB w) := by
 obtain ⟨⟨vhA, vhc⟩, ⟨vuA, vuc⟩, ⟨vaA, vac⟩, ⟨vkA, vkc⟩, ⟨voA, voc⟩⟩ := v
 have hx1 : C.holders.length ≤ 9223372036854775807 := by have h1 := hC.holders.2.2.1; have h2 := hC.holders.2.2.2; unfold maxLen at h2; omega
 have hx2 : C.units.length ≤ 9223372036854775807 := by have h1 := hC.units.2.2.1; have h2 := hC.units.2.2.2; unfold maxLen at h2; omega
 have hx3 : C.acts.length ≤ 9223372036854775807 := by have h1 := hC.acts.2.2.1; have h2 := hC.acts.2.2.2; unfold maxLen at h2; omega
 have hx6 : C.off.length ≤ 9223372036854775807 := by have h1 := hC.off.2.2.1; have h2 := hC.off.2.2.2; unfold maxLen at h2; omega
 have hx4 : C.clauses.length ≤ 9223372036854775807 := by
  obtain ⟨ss, g1, g2, g3⟩ := hC.clauses
  have h1 := g2.2.2.1; have h2 := g2.2.2.2; unfold maxLen at h2; omega
 have HC := Lib.hid hC; clear hC
 simp only [CV.val, CV.cells]
 go_enter Tryz.func34, Tryz.ntmps34
 go_upto_region 1 with (fail)
 generalize hW0 : World.alloc _ _ = W0
 obtain ⟨HB, hh0⟩ := bx1 hW0
 clear hW0
 obtain ⟨k0_0, k0_1, k0_2, k0_3, k0_4, k0_5, k0_6⟩ := kc7 hh0
 clear hh0
 change Code.wp _ _ _ _ (Bl.val (⟨W0, Below.refl _ _⟩ : Bl W0))
 generalize (⟨W0, Below.refl _ _⟩ : Bl W0) = s0
 have HS : Hid (∀ z : Bl W0, Calls Tryz.prog 57 #[.agg #[.int .i64 C.parties, .slice vhA C.holders.length vhc, .slice vuA C.units.length vuc, .slice vaA C.acts.length vac, .slice vkA C.clauses.length vkc, .int .i64 C.days, .slice voA C.off.length voc], .int .i64 6] z.val (SomeB z.val)) := fun z => small_any (⟨⟨vhA, vhc⟩, ⟨vuA, vuc⟩, ⟨vaA, vac⟩, ⟨vkA, vkc⟩, ⟨voA, voc⟩⟩ : CV) C 6 z.val (HC.out.below (Below.step HB.out z.prop))
 go_wp2_with (go_at_call 57; refine (HS.out _).mono ?_; rintro e z ⟨x, rfl, hz⟩; obtain ⟨z, rfl⟩ := Bl.on hz; clear hz; refine Hid.out ?_)
 refine Lib.hid ?_
 cases x with
 | false =>
  go_wp2
  go_ret
  exact ⟨_, rfl, Below.step HB.out (Bl.prop _)⟩
 | true =>
  cases q1 : decide ((C.acts.length : Int) ≤ 8) with
  | false =>
   go_wp2
   go_ret
   exact ⟨_, rfl, Below.step HB.out (Bl.prop _)⟩
  | true =>
   go_wp2
   go_ret
   exact ⟨_, rfl, Below.step HB.out (Bl.prop _)⟩
set_option maxRecDepth 100000 in
set_option maxHeartbeats 1000000 in
theorem few_any (v : CV) (C : KCon) (lv : SV) (l : List Int) (p : Int) (sv : SV) (b : List KState) (w : World) (hC : ConAt w v C) (hV : At w 1 lv.A l.length lv.c (ints l)) (hS : StatesAt w sv b) : Calls Tryz.prog 12 #[v.val C, .slice lv.A l.length lv.c, .agg #[.int .i64 p, .slice sv.A b.length sv.c]] w (SomeB w) := by
 obtain ⟨⟨vhA, vhc⟩, ⟨vuA, vuc⟩, ⟨vaA, vac⟩, ⟨vkA, vkc⟩, ⟨voA, voc⟩⟩ := v
 obtain ⟨bA, bc⟩ := sv
 obtain ⟨lA, lc⟩ := lv
 have hlx : l.length ≤ 9223372036854775807 := by have h1 := hV.2.2.1; have h2 := hV.2.2.2; unfold maxLen at h2; omega
 obtain ⟨hbx1, hbx2⟩ := hS.len
 simp only at hbx1 hbx2
 have HC := Lib.hid hC; clear hC
 have HS := Lib.hid hS; clear hS
 clear hV
 simp only [CV.val, CV.cells]
 go_enter Tryz.func12, Tryz.ntmps12
 go_upto_region 1 with (fail)
 generalize hW0 : World.alloc _ _ = W0
 obtain ⟨HB, hh0, hh1⟩ := bx2 hW0
 have HW0 := Lib.hid hW0.symm
 clear hW0
 obtain ⟨k0_0, k0_1, k0_2, k0_3, k0_4, k0_5, k0_6⟩ := kc7 hh0
 clear hh0
 obtain ⟨k1_0, k1_1⟩ := kc2 hh1
 clear hh1
 change Code.wp _ _ _ _ (Bl.val (⟨W0, Below.refl _ _⟩ : Bl W0))
 generalize (⟨W0, Below.refl _ _⟩ : Bl W0) = s0
 have HTM : Hid (∀ z : Bl W0, Calls Tryz.prog 34 #[.agg #[.int .i64 C.parties, .slice vhA C.holders.length vhc, .slice vuA C.units.length vuc, .slice vaA C.acts.length vac, .slice vkA C.clauses.length vkc, .int .i64 C.days, .slice voA C.off.length voc]] z.val (SomeB z.val)) := fun z => tame_any (⟨⟨vhA, vhc⟩, ⟨vuA, vuc⟩, ⟨vaA, vac⟩, ⟨vkA, vkc⟩, ⟨voA, voc⟩⟩ : CV) C z.val (HC.out.below (Below.step HB.out z.prop))
 go_wp2_with (go_at_call 34; refine (HTM.out _).mono ?_; rintro e z ⟨x, rfl, hz⟩; obtain ⟨z, rfl⟩ := Bl.on hz; clear hz; refine Hid.out ?_)
 refine Lib.hid ?_
 cases x with
 | false =>
  go_wp2
  go_ret
  exact ⟨_, rfl, Below.step HB.out (Bl.prop _)⟩
 | true =>
  cases q1 : decide (30 < (l.length : Int)) with
  | true =>
   go_wp2
   go_ret
   exact ⟨_, rfl, Below.step HB.out (Bl.prop _)⟩
  | false =>
   cases q2 : decide (40 < (b.length : Int)) with
   | true =>
    go_wp2
    go_ret
    exact ⟨_, rfl, Below.step HB.out (Bl.prop _)⟩
   | false =>
    have hw1 : w.heap.size + 1 < W0.heap.size := by rw [HW0.out]; simp
    go_wp2
    go_loopg [7] b.length (fun gk v7 wr => ∃ (j : Nat) (z : Bl W0), gk = b.length - j ∧ j ≤ b.length ∧ v7 = .int .i64 j ∧ wr = z.val)
    case atStart => exact ⟨0, _, rfl, Nat.zero_le _, rfl, rfl⟩
    case round =>
     obtain ⟨j, z, hgk, hj, rfl, rfl⟩ := hrel
     have HGK := Lib.hid hgk; clear hgk
     by_cases hlt : j < b.length
     · obtain ⟨s, hs⟩ : ∃ s, b[j]? = some s := ⟨_, List.getElem?_eq_getElem hlt⟩
       obtain ⟨lb, loff, hA, hlb, hst⟩ := (HS.out.below (Below.step HB.out z.prop)).form (by omega)
       simp only at hA
       subst hA
       obtain ⟨⟨⟨thA, thc⟩, ⟨tuA, tuc⟩, ⟨tmA, tmc⟩⟩, hstate, hcell⟩ := hst j s hs
       have hcl := hcell z.val (Below.refl _ _)
       obtain ⟨c0, c1, c2, c3⟩ := rw4 hcl rfl
       have y1 : s.holders.length ≤ 9223372036854775807 := by have h1 := hstate.holders.2.2.1; have h2 := hstate.holders.2.2.2; unfold maxLen at h2; omega
       have y2 : s.used.length ≤ 9223372036854775807 := by have h1 := hstate.used.2.2.1; have h2 := hstate.used.2.2.2; unfold maxLen at h2; omega
       have y3 : s.marks.length ≤ 9223372036854775807 := by have h1 := hstate.marks.2.2.1; have h2 := hstate.marks.2.2.2; unfold maxLen at h2; omega
       clear hcl hcell hst hstate hs
       have j0 : (0 : Int) ≤ (j : Int) := by omega
       have j1 : (j : Int) < (b.length : Int) := by omega
       go_upto_region 7 with (fail)
       obtain ⟨Wa, HWa⟩ : ∃ Wa, Hid (Wa = z.val.alloc (.cells #[.int .i64 s.day, .slice thA s.holders.length thc, .slice tuA s.used.length tuc, .slice tmA s.marks.length tmc] 43)) := ⟨_, rfl⟩
       rw [← HWa.out]
       have hba : Below z.val.heap.size z.val Wa := by rw [HWa.out]; exact Below.alloc' (Below.refl _ _) _
       have hax2 : Wa.heap[z.val.heap.size]? = some (.cells #[.int .i64 s.day, .slice thA s.holders.length thc, .slice tuA s.used.length tuc, .slice tmA s.marks.length tmc] 43 (0, 0)) := by rw [HWa.out]; exact heap_alloc_new z.val _
       have d1 : Wa.cell? ⟨z.val.heap.size, 1, none⟩ = some (.slice thA s.holders.length thc) := (cell_of_row Wa _ 1 _ _ _ hax2).trans rfl
       have d2 : Wa.cell? ⟨z.val.heap.size, 2, none⟩ = some (.slice tuA s.used.length tuc) := (cell_of_row Wa _ 2 _ _ _ hax2).trans rfl
       have d3 : Wa.cell? ⟨z.val.heap.size, 3, none⟩ = some (.slice tmA s.marks.length tmc) := (cell_of_row Wa _ 3 _ _ _ hax2).trans rfl
       have HPA : Hid (Below W0.heap.size W0 Wa) := Below.step z.prop hba
       clear c0 c1 c2 c3 hax2 hba
       cases r1 : decide (20 < (s.holders.length : Int)) with
       | true =>
        go_wp2
        go_ret
        exact ⟨_, rfl, Below.step HB.out HPA.out⟩
       | false =>
        cases r2 : decide (70 < (s.used.length : Int)) with
        | true =>
         go_wp2
         go_ret
         exact ⟨_, rfl, Below.step HB.out HPA.out⟩
        | false =>
         cases r3 : decide (20 < (s.marks.length : Int)) with
         | true =>
          go_wp2
          go_ret
          exact ⟨_, rfl, Below.step HB.out HPA.out⟩
         | false =>
          go_wp2
          go_roundg (b.length - (j + 1))
          case measure => rw [HGK.out]; omega
          case rel => exact ⟨j + 1, ⟨Wa, HPA.out⟩, rfl, by omega, by go_num, rfl⟩
     · obtain rfl : j = b.length := by omega
       go_wp2
       go_ret
       exact ⟨_, rfl, Below.step HB.out (Bl.prop _)⟩
end Go.Proofs.YtaielhafpmjkaaaGreatDoor
namespace Go.Proofs.YtaielhafpmjkaaaGreatDoor
open Go.RowKit Go.Shelf
def exK : KClause := ⟨1, 0, 0, 1, [], 1, 0, false, true, -1, -1, ⟨0, 1⟩, -1, -1, false⟩
def exC : KCon := ⟨3, [0, 1, 2], [], [⟨1, 0, 0, 1, -1, ⟨0, 1⟩⟩], [exK], 2, []⟩
def ConRet (C : KCon) (w : World) (e : Ending) (w' : World) : Prop :=
 ∃ (hA : Option Addr) (hc : Nat) (uA : Option Addr) (uc : Nat) (aA : Option Addr) (ac : Nat) (kA : Option Addr) (kc : Nat) (oA : Option Addr) (oc : Nat), e = .returned (CV.val ⟨⟨hA, hc⟩, ⟨uA, uc⟩, ⟨aA, ac⟩, ⟨kA, kc⟩, ⟨oA, oc⟩⟩ C) ∧ ConAt w' ⟨⟨hA, hc⟩, ⟨uA, uc⟩, ⟨aA, ac⟩, ⟨kA, kc⟩, ⟨oA, oc⟩⟩ C ∧ Below w.heap.size w w'
theorem at_nil (w : World) (size : Nat) : At w size none 0 0 [] := ⟨⟨by simp, (fun u hu => by cases hu), fun h => by omega⟩, fun _ => ⟨rfl, rfl⟩, Nat.le_refl _, Nat.zero_le _⟩
theorem at_row {w : World} {size n g : Nat} {xs : List Value} {t : TypeId} (h : w.heap[g]? = some (.cells xs.toArray t (0, 0))) (hl : xs.length = n * size) (h1 : ∀ u ∈ xs, u.oneCell' = true) (hn : n ≤ maxLen) : At w size (some ⟨g, 0, none⟩) n n xs := by
 refine ⟨⟨hl, h1, fun _ => ⟨_, rfl, fun j u hj => ?_⟩⟩, (fun h => by cases h), Nat.le_refl _, hn⟩
 rw [Addr.add_lit, cell_of_row _ _ (0 + j) _ _ _ h]
 simpa using hj
set_option maxRecDepth 100000 in
set_option maxHeartbeats 1000000 in
theorem example_any (w : World) : Calls Tryz.prog 32 #[] w (ConRet exC w) := by
 go_enter Tryz.func32, Tryz.ntmps32
 go_wp2
 generalize hW0 : World.alloc _ _ = W0
 obtain ⟨HB, hh0, hh1, hh2, hh3, hh4, hh5⟩ := bx6 hW0
 have HW0 := Lib.hid hW0.symm
 clear hW0
 clear HW0
 have g0 : W0.cell? ⟨w.heap.size, 0, none⟩ = some (.int .i64 3) := (cell_of_row W0 _ 0 _ _ _ hh0).trans rfl
 have g1 : W0.cell? ⟨w.heap.size, 1, none⟩ = some (.slice (some ⟨w.heap.size + 1 + 1 + 1, 0, none⟩) 3 3) := (cell_of_row W0 _ 1 _ _ _ hh0).trans rfl
 have g2 : W0.cell? ⟨w.heap.size, 2, none⟩ = some (.slice none 0 0) := (cell_of_row W0 _ 2 _ _ _ hh0).trans rfl
 have g3 : W0.cell? ⟨w.heap.size, 3, none⟩ = some (.slice (some ⟨w.heap.size + 1 + 1 + 1 + 1, 0, none⟩) 1 1) := (cell_of_row W0 _ 3 _ _ _ hh0).trans rfl
 have g4 : W0.cell? ⟨w.heap.size, 4, none⟩ = some (.slice (some ⟨w.heap.size + 1 + 1 + 1 + 1 + 1, 0, none⟩) 1 1) := (cell_of_row W0 _ 4 _ _ _ hh0).trans rfl
 have g5 : W0.cell? ⟨w.heap.size, 5, none⟩ = some (.int .i64 2) := (cell_of_row W0 _ 5 _ _ _ hh0).trans rfl
 have g6 : W0.cell? ⟨w.heap.size, 6, none⟩ = some (.slice none 0 0) := (cell_of_row W0 _ 6 _ _ _ hh0).trans rfl
 refine bodyPost_ret (v := .agg #[.int .i64 3, .slice (some ⟨w.heap.size + 1 + 1 + 1, 0, none⟩) 3 3, .slice none 0 0, .slice (some ⟨w.heap.size + 1 + 1 + 1 + 1, 0, none⟩) 1 1, .slice (some ⟨w.heap.size + 1 + 1 + 1 + 1 + 1, 0, none⟩) 1 1, .int .i64 2, .slice none 0 0]) (by simp [results, Tryz.results32, go_sem, g0, g1, g2, g3, g4, g5, g6]) rfl ⟨some ⟨w.heap.size + 1 + 1 + 1, 0, none⟩, 3, none, 0, some ⟨w.heap.size + 1 + 1 + 1 + 1, 0, none⟩, 1, some ⟨w.heap.size + 1 + 1 + 1 + 1 + 1, 0, none⟩, 1, none, 0, rfl, ?_, HB.out⟩
 refine ⟨?_, at_nil _ _, ?_, ?_, at_nil _ _⟩
 · exact at_row hh3 rfl (by decide) (by unfold maxLen; decide)
 · exact at_row hh4 rfl (by decide) (by unfold maxLen; decide)
 · refine ⟨[⟨none, 0⟩], rfl, ?_, ?_⟩
   · exact at_row hh5 rfl (by decide) (by unfold maxLen; decide)
   · intro i k st hk hst
     cases i with
     | zero =>
      simp [exC] at hk hst
      subst hk hst
      exact at_nil _ _
     | succ i => simp [exC] at hk
end Go.Proofs.YtaielhafpmjkaaaGreatDoor
