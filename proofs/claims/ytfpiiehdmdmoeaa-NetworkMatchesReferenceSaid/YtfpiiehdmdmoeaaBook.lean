/-
  How a book lies in memory: what was sent, and what each house received.
-/
import Derived.Test.YtfpiiehdmdmoeaaNew
namespace Go.Proofs.Ytfpiiehdmdmoeaa
open Go.RowKit

structure BookAt (w : World) (G : Nat → Prop) (bb gb : Nat) (sent : List Pkt) (got : List (List Pkt)) (sv : Value) (sblk : Option Nat) (vs : List Value) (gblk : Nat → Option Nat) : Prop where
  head : w.heap[bb]? = some (.cells #[sv, .slice (some ⟨gb, 0, none⟩) got.length got.length] 46 (0, 0))
  row : w.heap[gb]? = some (.cells vs.toArray 36 (0, 0))
  len : vs.length = got.length
  sentR : RowAt w 31 3 sv sent.length (flatP sent) sblk
  gotR : ∀ h, h < got.length → RowAt w 31 3 (vs.getD h undef) (got.getD h []).length (flatP (got.getD h [])) (gblk h)
  apart : ∀ h h' b, h < got.length → h' < got.length → gblk h = some b → gblk h' = some b → h = h'
  apartS : ∀ h b, h < got.length → gblk h = some b → sblk ≠ some b
  inB : G bb
  inG : G gb
  inS : ∀ b, sblk = some b → G b
  inL : ∀ h b, h < got.length → gblk h = some b → G b
  lt : ∀ k, G k → k < w.heap.size

def BookRep (w : World) (G : Nat → Prop) (bb gb : Nat) (sent : List Pkt) (got : List (List Pkt)) : Prop := ∃ sv sblk vs gblk, BookAt w G bb gb sent got sv sblk vs gblk

section
variable {w w' : World} {G : Nat → Prop} {bb gb : Nat} {sent : List Pkt} {got : List (List Pkt)} {sv : Value} {sblk : Option Nat} {vs : List Value} {gblk : Nat → Option Nat}
theorem BookAt.keep {S : Nat → Prop} (h : BookAt w G bb gb sent got sv sblk vs gblk) (hu : Upd S w w') (hd : ∀ k, G k → ¬ S k) : BookAt w' G bb gb sent got sv sblk vs gblk :=
  ⟨hu.keep h.head (hd _ h.inB), hu.keep h.row (hd _ h.inG), h.len, h.sentR.keep hu (fun k hk => hd _ (h.inS k hk)), fun i hi => (h.gotR i hi).keep hu (fun k hk => hd _ (h.inL i k hi hk)), h.apart, h.apartS, h.inB, h.inG, h.inS, h.inL,
    fun k hk => Nat.lt_of_lt_of_le (h.lt k hk) hu.size⟩
theorem BookRep.keep {S : Nat → Prop} (h : BookRep w G bb gb sent got) (hu : Upd S w w') (hd : ∀ k, G k → ¬ S k) : BookRep w' G bb gb sent got := by
  obtain ⟨a, b, c, d, h⟩ := h
  exact ⟨a, b, c, d, h.keep hu hd⟩
theorem BookAt.bg (h : BookAt w G bb gb sent got sv sblk vs gblk) : bb ≠ gb := by
  rintro rfl
  have := h.head.symm.trans h.row
  simp at this
theorem BookAt.c0 (h : BookAt w G bb gb sent got sv sblk vs gblk) : w.cell? ⟨bb, 0, none⟩ = some sv := by simp [World.cell?, h.head]
theorem BookAt.c1 (h : BookAt w G bb gb sent got sv sblk vs gblk) : w.cell? ⟨bb, 1, none⟩ = some (.slice (some ⟨gb, 0, none⟩) got.length got.length) := by simp [World.cell?, h.head]
theorem BookAt.fb (h : BookAt w G bb gb sent got sv sblk vs gblk) (i : Nat) : w.frozen? ⟨bb, i, none⟩ = false := by simp [World.frozen?, h.head]
theorem BookAt.fg (h : BookAt w G bb gb sent got sv sblk vs gblk) (i : Nat) : w.frozen? ⟨gb, i, none⟩ = false := by simp [World.frozen?, h.row]
theorem BookAt.cg (h : BookAt w G bb gb sent got sv sblk vs gblk) (i : Nat) (hi : i < got.length) : w.cell? ⟨gb, i, none⟩ = some (vs.getD i undef) := by
  have : i < vs.length := by rw [h.len]; exact hi
  simp [World.cell?, h.row, this]

theorem BookAt.setSent {w1 : World} (hr : BookAt w G bb gb sent got sv sblk vs gblk) (v' : Value) (sent' : List Pkt) (blk' : Option Nat) {n' : Nat} (hn' : n' = sent'.length) (hrow : RowAt w1 31 3 v' n' (flatP sent') blk') (hblk : blk' = sblk ∨ ∃ k, blk' = some k ∧ w.heap.size ≤ k)
    (hu : Upd (fun k => sblk = some k) w w1) :
    BookRep (w1.setCell ⟨bb, 0, none⟩ v') (fun k => G k ∨ (w.heap.size ≤ k ∧ k < w1.heap.size)) bb gb sent' got ∧ Upd G w (w1.setCell ⟨bb, 0, none⟩ v') := by
  subst hn'
  have hd := hu.keep hr.head (fun hc => hr.sentR.ne_type hr.head (by decide) hc)
  have hq := hu.keep hr.row (fun hc => hr.sentR.ne_type hr.row (by decide) hc)
  have hu1 : Upd (fun k => k = bb) w1 (w1.setCell ⟨bb, 0, none⟩ v') := (Upd.refl (fun k => k = bb) w1).setCell (.inl rfl) _
  have huA : Upd G w (w1.setCell ⟨bb, 0, none⟩ v') := (hu.mono (S' := G) (fun i _ hi => hr.inS i hi)).trans hu1 (fun i _ hi => by rw [hi]; exact hr.inB)
  refine ⟨⟨v', blk', vs, gblk, ⟨(heap_setCell_same hd _).trans (by simp), hu1.keep hq (fun e => hr.bg e.symm), hr.len, hrow.keep hu1 (fun k hk e => ?_), fun i hi => ?_, hr.apart, fun i b hi hb hb' => ?_, .inl hr.inB, .inl hr.inG, fun b hb => ?_, fun i b hi hb => .inl (hr.inL i b hi hb), ?_⟩⟩, huA⟩
  · subst e; exact hrow.ne_type hd (by decide) hk
  · refine ((hr.gotR i hi).keep hu (fun k hk => hr.apartS i k hi hk)).keep hu1 (fun k hk e => ?_)
    subst e
    exact (hr.gotR i hi).ne_type hr.head (by decide) hk
  · rcases hblk with e | ⟨k, e, hk⟩
    · exact hr.apartS i b hi hb (e ▸ hb')
    · rw [e] at hb'; injection hb' with hb'; subst hb'
      have := (hr.gotR i hi).lt hb
      omega
  · rcases hblk with e | ⟨k, e, hk⟩
    · exact .inl (hr.inS b (e ▸ hb))
    · rw [e] at hb; injection hb with hb; subst hb
      exact .inr ⟨hk, hrow.lt e⟩
  · rintro k (hk | hk)
    · exact Nat.lt_of_lt_of_le (hr.lt k hk) huA.size
    · simpa [World.setCell] using hk.2

theorem BookAt.setGot {w1 : World} (hr : BookAt w G bb gb sent got sv sblk vs gblk) (h : Nat) (hh : h < got.length) (v' : Value) (l' : List Pkt) (blk' : Option Nat) {n' : Nat} (hn' : n' = l'.length) (hrow : RowAt w1 31 3 v' n' (flatP l') blk') (hblk : blk' = gblk h ∨ ∃ k, blk' = some k ∧ w.heap.size ≤ k)
    (hu : Upd (fun k => gblk h = some k) w w1) :
    BookRep (w1.setCell ⟨gb, h, none⟩ v') (fun k => G k ∨ (w.heap.size ≤ k ∧ k < w1.heap.size)) bb gb sent (got.set h l') ∧ Upd G w (w1.setCell ⟨gb, h, none⟩ v') := by
  subst hn'
  have hd := hu.keep hr.head (fun hc => (hr.gotR h hh).ne_type hr.head (by decide) hc)
  have hq := hu.keep hr.row (fun hc => (hr.gotR h hh).ne_type hr.row (by decide) hc)
  have hu1 : Upd (fun k => k = gb) w1 (w1.setCell ⟨gb, h, none⟩ v') := (Upd.refl (fun k => k = gb) w1).setCell (.inl rfl) _
  have huA : Upd G w (w1.setCell ⟨gb, h, none⟩ v') := (hu.mono (S' := G) (fun i _ hi => hr.inL h i hh hi)).trans hu1 (fun i _ hi => by rw [hi]; exact hr.inG)
  have hvl : h < vs.length := by rw [hr.len]; exact hh
  have hold : ∀ i b, i < got.length → i ≠ h → gblk i = some b → blk' ≠ some b := by
    intro i b hi hne hb hb'
    rcases hblk with e | ⟨k, e, hk⟩
    · exact hne (hr.apart i h b hi hh hb (e ▸ hb'))
    · rw [e] at hb'; injection hb' with hb'; subst hb'
      have := (hr.gotR i hi).lt hb
      omega
  refine ⟨⟨sv, sblk, vs.set h v', fun i => if i = h then blk' else gblk i, ⟨?_, (heap_setCell_same hq _).trans (by simp), by simpa using hr.len, ?_, fun i hi => ?_, fun i j b hi hj hb1 hb2 => ?_, fun i b hi hb hb' => ?_, .inl hr.inB, .inl hr.inG, fun b hb => .inl (hr.inS b hb), fun i b hi hb => ?_, ?_⟩⟩, huA⟩
  · have := hu1.keep hd (fun e => hr.bg e)
    simpa using this
  · refine (hr.sentR.keep hu (fun k hk hc => hr.apartS h k hh hc hk)).keep hu1 (fun k hk e => ?_)
    subst e
    exact hr.sentR.ne_type hr.row (by decide) hk
  · simp only [List.length_set] at hi
    by_cases e : i = h
    · subst e
      have := hrow.keep hu1 (fun k hk e => by subst e; exact hrow.ne_type hq (by decide) hk)
      simpa [hi, hvl] using this
    · have e' : ¬ h = i := fun x => e x.symm
      have := ((hr.gotR i hi).keep hu (fun k hk hc => e (hr.apart i h k hi hh hk hc))).keep hu1 (fun k hk e => by subst e; exact (hr.gotR i hi).ne_type hr.row (by decide) hk)
      simpa [List.getElem?_set, e, e'] using this
  · simp only [List.length_set] at hi hj
    by_cases e1 : i = h <;> by_cases e2 : j = h
    · rw [e1, e2]
    · simp only [e1, e2, if_true, if_false] at hb1 hb2
      exact absurd hb1 (hold j b hj e2 hb2)
    · simp only [e1, e2, if_true, if_false] at hb1 hb2
      exact absurd hb2 (hold i b hi e1 hb1)
    · simp only [e1, e2, if_false] at hb1 hb2
      exact hr.apart i j b hi hj hb1 hb2
  · simp only [List.length_set] at hi
    by_cases e : i = h
    · simp only [e, if_true] at hb
      rcases hblk with e2 | ⟨k, e2, hk⟩
      · exact hr.apartS h b hh (e2 ▸ hb) hb'
      · rw [e2] at hb; injection hb with hb; subst hb
        have := hr.sentR.lt hb'
        omega
    · simp only [e, if_false] at hb
      exact hr.apartS i b hi hb hb'
  · simp only [List.length_set] at hi
    by_cases e : i = h
    · simp only [e, if_true] at hb
      rcases hblk with e2 | ⟨k, e2, hk⟩
      · exact .inl (hr.inL h b hh (e2 ▸ hb))
      · rw [e2] at hb; injection hb with hb; subst hb
        exact .inr ⟨hk, hrow.lt e2⟩
    · simp only [e, if_false] at hb
      exact .inl (hr.inL i b hi hb)
  · rintro k (hk | hk)
    · exact Nat.lt_of_lt_of_le (hr.lt k hk) huA.size
    · simpa [World.setCell] using hk.2
end
end Go.Proofs.Ytfpiiehdmdmoeaa
