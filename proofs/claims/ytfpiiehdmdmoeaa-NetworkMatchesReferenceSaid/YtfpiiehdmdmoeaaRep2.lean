/-
  A network in memory while one of its queues, its fates or its counters are written.
-/
import Derived.Test.YtfpiiehdmdmoeaaSmall
namespace Go.Proofs.Ytfpiiehdmdmoeaa
open Go.RowKit

theorem RowAt.ne_type {w : World} {e : TypeId} {size n : Nat} {v : Value} {xs : List Value} {blk : Option Nat} (h : RowAt w e size v n xs blk) {g : Nat} {cs : Array Value} {t : TypeId} {fr : Nat × Nat} (hg : w.heap[g]? = some (.cells cs t fr)) (hne : e ≠ t) : blk ≠ some g := by
  rintro rfl
  rcases h.2 with ⟨_, _, h0⟩ | ⟨g', _, _, _, hb, _, hg', _⟩
  · cases h0
  · injection hb with hb; subst hb
    have h2 := hg.symm.trans hg'
    simp at h2
    exact hne h2.2.1.symm

theorem RowAt.ne_row {w : World} {e e' : TypeId} {size size' n n' : Nat} {v v' : Value} {xs xs' : List Value} {blk blk' : Option Nat} (h : RowAt w e size v n xs blk) (h' : RowAt w e' size' v' n' xs' blk') (hne : e ≠ e') {k : Nat} (hk : blk = some k) : blk' ≠ some k := by
  rintro rfl
  rcases h'.2 with ⟨_, _, h0⟩ | ⟨g', _, _, _, hb, _, hg', _⟩
  · cases h0
  · injection hb with hb; subst hb
    exact h.ne_type hg' hne hk

section
variable {w w' : World} {F : Nat → Prop} {g : Nat} {N : Net} {fv : Value} {fblk : Option Nat} {qb : Nat} {vs : List Value} {qblk : Nat → Option Nat}

/-- One queue is written anew. -/
theorem NetAt.setQueueG (hr : NetAt w F g N fv fblk qb vs qblk) (h : Nat) (hh : h < N.queues.length) (q' : List Flight) (v : Value) (blk' : Option Nat) (wait' : Nat)
    {F' : Nat → Prop} (hF : ∀ k, F k → F' k) (hF2 : ∀ k, blk' = some k → F' k) (hF3 : ∀ k, F' k → k < w'.heap.size)
    (hrow : RowAt w' 66 4 v q'.length (flatL q') blk') (hblk : blk' = none ∨ blk' = qblk h ∨ ∃ k, blk' = some k ∧ w.heap.size ≤ k)
    (h1 : w'.heap[g]? = some (.cells #[fv, .int .i64 N.time, .int .i64 wait', .slice (some ⟨qb, 0, none⟩) N.queues.length N.queues.length] 58 (0, 0)))
    (h2 : w'.heap[qb]? = some (.cells (vs.set h v).toArray 64 (0, 0)))
    (hu : Upd (fun k => k = g ∨ k = qb ∨ qblk h = some k) w w') :
    NetRep w' F' g ⟨N.fates, N.time, wait', N.queues.set h q'⟩ ∧ Upd F w w' := by
  have huF : Upd F w w' := hu.mono (fun i _ hi => by
    rcases hi with rfl | rfl | hi
    · exact hr.inG
    · exact hr.inQ
    · exact hr.inL h i hh hi)
  have hget : ∀ i, i < N.queues.length → i ≠ h → RowAt w' 66 4 (vs.getD i undef) (N.queues.getD i []).length (flatL (N.queues.getD i [])) (qblk i) := fun i hi hne =>
    (hr.queue i hi).keep hu (fun k hk => by
      rintro (rfl | rfl | hq)
      · exact (hr.queue i hi).ne_type hr.head (by decide) hk
      · exact (hr.queue i hi).ne_type hr.row (by decide) hk
      · exact hne (hr.apart i h k hi hh hk hq))
  have hq : ∀ i, i < N.queues.length → RowAt w' 66 4 ((vs.set h v).getD i undef) ((N.queues.set h q').getD i []).length (flatL ((N.queues.set h q').getD i [])) (if i = h then blk' else qblk i) := by
    intro i hi
    by_cases e : i = h
    · subst e
      have hv : i < vs.length := by rw [hr.len]; exact hi
      simpa [hi, hv] using hrow
    · have e' : ¬ h = i := fun x => e x.symm
      simpa [List.getElem?_set, e, e'] using hget i hi e
  refine ⟨⟨fv, fblk, qb, vs.set h v, fun i => if i = h then blk' else qblk i, ⟨by simpa using h1, h2, by simpa using hr.len, ?_, ?_, ?_, hF _ hr.inG, hF _ hr.inQ, fun b hb => hF _ (hr.inF b hb), ?_, hF3⟩⟩, huF⟩
  · exact hr.fates.keep hu (fun k hk => by
      rintro (rfl | rfl | hq)
      · exact hr.fates.ne_type hr.head (by decide) hk
      · exact hr.fates.ne_type hr.row (by decide) hk
      · exact hr.fates.ne_row (hr.queue h hh) (by decide) hk hq)
  · intro i hi
    exact hq i (by simpa using hi)
  · intro i j b hi hj hb1 hb2
    simp only [List.length_set] at hi hj
    have old : ∀ x, x < N.queues.length → x ≠ h → qblk x = some b → blk' ≠ some b := by
      intro x hx hne hb hbl
      rcases hblk with e | e | ⟨k, e, hk⟩
      · rw [e] at hbl; cases hbl
      · exact hne (hr.apart x h b hx hh hb (e ▸ hbl))
      · rw [e] at hbl; injection hbl with hbl; subst hbl
        have := (hr.queue x hx).lt hb
        omega
    by_cases e1 : i = h <;> by_cases e2 : j = h
    · rw [e1, e2]
    · simp only [e1, e2, if_true, if_false] at hb1 hb2
      exact absurd hb1 (old j hj e2 hb2)
    · simp only [e1, e2, if_true, if_false] at hb1 hb2
      exact absurd hb2 (old i hi e1 hb1)
    · simp only [e1, e2, if_false] at hb1 hb2
      exact hr.apart i j b hi hj hb1 hb2
  · intro i b hi hb
    simp only [List.length_set] at hi
    by_cases e : i = h
    · simp only [e, if_true] at hb
      exact hF2 b hb
    · simp only [e, if_false] at hb
      exact hF _ (hr.inL i b hi hb)

/-- One queue is written anew, into an old block or a new one. -/
theorem NetAt.setQueue (hr : NetAt w F g N fv fblk qb vs qblk) (h : Nat) (hh : h < N.queues.length) (q' : List Flight) (v : Value) (blk' : Option Nat) (wait' : Nat)
    (hrow : RowAt w' 66 4 v q'.length (flatL q') blk') (hblk : blk' = none ∨ blk' = qblk h ∨ ∃ k, blk' = some k ∧ w.heap.size ≤ k)
    (h1 : w'.heap[g]? = some (.cells #[fv, .int .i64 N.time, .int .i64 wait', .slice (some ⟨qb, 0, none⟩) N.queues.length N.queues.length] 58 (0, 0)))
    (h2 : w'.heap[qb]? = some (.cells (vs.set h v).toArray 64 (0, 0)))
    (hu : Upd (fun k => k = g ∨ k = qb ∨ qblk h = some k) w w') :
    NetRep w' (fun k => F k ∨ (w.heap.size ≤ k ∧ k < w'.heap.size)) g ⟨N.fates, N.time, wait', N.queues.set h q'⟩ ∧ Upd F w w' :=
  hr.setQueueG h hh q' v blk' wait' (fun _ h => .inl h) (fun k hk => by
    rcases hblk with e | e | ⟨k', e, hk'⟩
    · rw [e] at hk; cases hk
    · exact .inl (hr.inL h k hh (e ▸ hk))
    · rw [e] at hk; injection hk with hk; subst hk
      exact .inr ⟨hk', hrow.lt e⟩) (fun k hk => by
    rcases hk with hk | hk
    · exact Nat.lt_of_lt_of_le (hr.lt k hk) hu.size
    · exact hk.2) hrow hblk h1 h2 hu

/-- .. as the two stores of a Send or a Receive do it. -/
theorem NetAt.storeQueue {wr : World} (hr : NetAt w F g N fv fblk qb vs qblk) (h : Nat) (hh : h < N.queues.length) (q' : List Flight) (v : Value) (blk' : Option Nat) (wait' : Nat) {n' : Nat} (hn' : n' = q'.length)
    (hrow : RowAt wr 66 4 v n' (flatL q') blk') (hblk : blk' = qblk h ∨ ∃ k, blk' = some k ∧ w.heap.size ≤ k) (hu : Upd (fun k => qblk h = some k) w wr) :
    NetRep ((wr.setCell ⟨qb, h, none⟩ v).setCell ⟨g, 2, none⟩ (.int .i64 wait')) (fun k => F k ∨ (w.heap.size ≤ k ∧ k < wr.heap.size)) g ⟨N.fates, N.time, wait', N.queues.set h q'⟩ ∧
      Upd F w ((wr.setCell ⟨qb, h, none⟩ v).setCell ⟨g, 2, none⟩ (.int .i64 wait')) := by
  subst hn'
  have hd := hu.keep hr.head (fun hc => (hr.queue h hh).ne_type hr.head (by decide) hc)
  have hq := hu.keep hr.row (fun hc => (hr.queue h hh).ne_type hr.row (by decide) hc)
  have hu1 : Upd (fun k => k = g ∨ k = qb) wr ((wr.setCell ⟨qb, h, none⟩ v).setCell ⟨g, 2, none⟩ (.int .i64 wait')) :=
    ((Upd.refl (fun k => k = g ∨ k = qb) wr).setCell (.inl (.inr rfl)) _).setCell (.inl (.inl rfl)) _
  have key := hr.setQueue (w' := (wr.setCell ⟨qb, h, none⟩ v).setCell ⟨g, 2, none⟩ (.int .i64 wait')) h hh q' v blk' wait'
    (hrow.keep hu1 (fun k hk => by
      rintro (rfl | rfl)
      · exact hrow.ne_type hd (by decide) hk
      · exact hrow.ne_type hq (by decide) hk)) (.inr hblk)
    ((heap_setCell_same ((Below.heap_setCell _ _ _ _ hr.gq).trans hd) _).trans (by simp))
    ((Below.heap_setCell _ _ _ _ (fun e => hr.gq e.symm)).trans ((heap_setCell_same hq _).trans (by simp)))
    ((hu.mono (S' := fun k => k = g ∨ k = qb ∨ qblk h = some k) (fun i _ hi => .inr (.inr hi))).trans hu1 (fun i _ hi => hi.elim .inl (fun h => .inr (.inl h))))
  simpa [World.setCell] using key

/-- The fates are cut. -/
theorem NetAt.setFates (hr : NetAt w F g N fv fblk qb vs qblk) (fv' : Value) (fs : List Fate) (hrow : RowAt w 51 3 fv' fs.length (flatF fs) fblk) (hw : w' = w.setCell ⟨g, 0, none⟩ fv') :
    NetAt w' F g ⟨fs, N.time, N.waiting, N.queues⟩ fv' fblk qb vs qblk ∧ Upd (fun k => k = g) w w' := by
  subst hw
  have hu : Upd (fun k => k = g) w (w.setCell ⟨g, 0, none⟩ fv') := (Upd.refl (fun k => k = g) w).setCell (.inl rfl) _
  refine ⟨⟨(heap_setCell_same hr.head _).trans (by simp), hu.keep hr.row (fun h => hr.gq h.symm), hr.len, hrow.keep hu (fun k hk e => ?_), fun i hi => (hr.queue i hi).keep hu (fun k hk e => ?_), hr.apart, hr.inG, hr.inQ, hr.inF, hr.inL, fun k hk => Nat.lt_of_lt_of_le (hr.lt k hk) hu.size⟩, hu⟩
  · subst e; exact hrow.ne_type hr.head (by decide) hk
  · subst e; exact (hr.queue i hi).ne_type hr.head (by decide) hk
end

theorem netpost_of {v : Value} {F : Nat → Prop} {g n : Nat} {N : Net} {w W2 wf : World} (hu : Upd F w W2) (h : NetRep wf (fun k => F k ∨ (W2.heap.size ≤ k ∧ k < n)) g N) (hn : n = wf.heap.size) (hu2 : Upd F W2 wf) :
    NetPost v F g N w (.returned v) wf := by
  subst hn
  obtain ⟨_, _, _, _, _, hfa⟩ := h
  refine ⟨rfl, ⟨_, _, _, _, _, hfa.more (fun i hi => ?_) (fun i hi => ?_)⟩, hu.trans hu2 (fun _ _ h => h)⟩
  · rcases hi with hi | hi
    · exact .inl hi
    · exact .inr ⟨Nat.le_trans hu.size hi.1, hi.2⟩
  · rcases hi with hi | hi
    · exact hfa.lt i (.inl hi)
    · exact hi.2
theorem netpost_drew {v : Value} {F : Nat → Prop} {g : Nat} {N : Net} {w w' : World} {e : Ending} (h : NetPost v F g N w e w') : NetPost v F g N w e w'.drew :=
  ⟨h.1, h.2.1.keep (S := fun _ => False) ((Upd.refl _ w').drew) (fun _ _ h => h), h.2.2.drew⟩
end Go.Proofs.Ytfpiiehdmdmoeaa
