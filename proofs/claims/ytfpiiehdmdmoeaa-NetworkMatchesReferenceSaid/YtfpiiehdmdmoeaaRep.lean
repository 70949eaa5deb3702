/-
  How a network lies in memory, and the contracts of its small methods.
-/
import Derived.Test.YtfpiiehdmdmoeaaPure
import Derived.Test.YtfpiiehdmdmoeaaIns
namespace Go.Proofs.Ytfpiiehdmdmoeaa
open Go.RowKit

def Pkt.cells (p : Pkt) : List Value := [.int .i64 p.frm, .int .i64 p.dst, .string p.body]
def Flight.cells (f : Flight) : List Value := [.int .i64 f.p.frm, .int .i64 f.p.dst, .string f.p.body, .int .i64 f.due]
def Fate.cells (f : Fate) : List Value := [.bool f.lost, .int .i64 f.copies, .int .i64 f.delay]
def flatP (l : List Pkt) : List Value := l.flatMap Pkt.cells
def flatL (l : List Flight) : List Value := l.flatMap Flight.cells
def flatF (l : List Fate) : List Value := l.flatMap Fate.cells

theorem length_flat {α : Type} (f : α → List Value) (s : Nat) (h : ∀ a, (f a).length = s) (l : List α) : (l.flatMap f).length = l.length * s := by
  induction l with
  | nil => simp
  | cons a l ih => rw [List.flatMap_cons, List.length_append, ih, h, List.length_cons, Nat.succ_mul]; omega
theorem get_flat {α : Type} (f : α → List Value) (s : Nat) (h : ∀ a, (f a).length = s) : ∀ (l : List α) (k j : Nat) (a : α), l[k]? = some a → j < s → (l.flatMap f)[k * s + j]? = (f a)[j]?
  | [], _, _, _, hk, _ => by simp at hk
  | b :: l, 0, j, a, hk, hj => by
    simp at hk; subst hk
    rw [List.flatMap_cons, Nat.zero_mul, Nat.zero_add, List.getElem?_append_left (by rw [h]; exact hj)]
  | b :: l, k + 1, j, a, hk, hj => by
    rw [List.flatMap_cons, List.getElem?_append_right (by rw [h, Nat.succ_mul]; omega), h, show (k + 1) * s + j - s = k * s + j by rw [Nat.succ_mul]; omega]
    exact get_flat f s h l k j a (by simpa using hk) hj
theorem drop_flat {α : Type} (f : α → List Value) (s : Nat) (h : ∀ a, (f a).length = s) : ∀ (l : List α) (k : Nat), (l.flatMap f).drop (k * s) = (l.drop k).flatMap f
  | [], k => by simp
  | b :: l, 0 => by simp
  | b :: l, k + 1 => by
    rw [List.flatMap_cons, List.drop_succ_cons, Nat.succ_mul, Nat.add_comm, ← List.drop_drop, ← drop_flat f s h l k]
    congr 1
    rw [List.drop_append_of_le_length (by rw [h]; exact Nat.le_refl _), List.drop_of_length_le (by rw [h]; exact Nat.le_refl _), List.nil_append]
theorem take_flat {α : Type} (f : α → List Value) (s : Nat) (h : ∀ a, (f a).length = s) : ∀ (l : List α) (k : Nat), (l.flatMap f).take (k * s) = (l.take k).flatMap f
  | [], k => by simp
  | b :: l, 0 => by simp
  | b :: l, k + 1 => by
    rw [List.flatMap_cons, List.take_succ_cons, List.flatMap_cons, Nat.succ_mul, Nat.add_comm, List.take_append, h, List.take_of_length_le (by rw [h]; omega), Nat.add_sub_cancel_left, take_flat f s h l k]
theorem len_flatL (l : List Flight) : (flatL l).length = l.length * 4 := length_flat _ 4 (fun _ => rfl) l
theorem len_flatF (l : List Fate) : (flatF l).length = l.length * 3 := length_flat _ 3 (fun _ => rfl) l
theorem len_flatP (l : List Pkt) : (flatP l).length = l.length * 3 := length_flat _ 3 (fun _ => rfl) l
theorem one_flatL (l : List Flight) : ∀ u ∈ flatL l, u.oneCell' = true := by
  intro u hu
  obtain ⟨a, _, ha⟩ := List.mem_flatMap.1 hu
  simp [Flight.cells] at ha
  rcases ha with rfl | rfl | rfl | rfl <;> rfl
theorem one_flatF (l : List Fate) : ∀ u ∈ flatF l, u.oneCell' = true := by
  intro u hu
  obtain ⟨a, _, ha⟩ := List.mem_flatMap.1 hu
  simp [Fate.cells] at ha
  rcases ha with rfl | rfl | rfl <;> rfl
theorem one_flatP (l : List Pkt) : ∀ u ∈ flatP l, u.oneCell' = true := by
  intro u hu
  obtain ⟨a, _, ha⟩ := List.mem_flatMap.1 hu
  simp [Pkt.cells] at ha
  rcases ha with rfl | rfl | rfl <;> rfl

theorem flat_ins (q : List Flight) (x : Flight) (k m : Nat) (hk : k ≤ q.length) :
    (flatL (q.take k ++ List.replicate m x ++ q.drop k)).take (k * 4) ++ x.cells ++ (flatL (q.take k ++ List.replicate m x ++ q.drop k)).drop (k * 4) = flatL (q.take k ++ List.replicate (m + 1) x ++ q.drop k) := by
  have hl : (q.take k).length = k := by rw [List.length_take]; omega
  unfold flatL
  rw [take_flat Flight.cells 4 (fun _ => rfl), drop_flat Flight.cells 4 (fun _ => rfl), List.append_assoc (q.take k) _ (q.drop k), List.take_append_of_le_length (by omega), List.take_of_length_le (l := q.take k) (by omega), List.drop_append_of_le_length (by omega), List.drop_of_length_le (l := q.take k) (by omega), List.nil_append, List.replicate_succ]
  simp only [List.flatMap_append, List.flatMap_cons, List.append_assoc, List.cons_append]

theorem Src.form {w : World} {size m : Nat} {A : Option Addr} {news : List Value} (h : Src w size A m news) (hm : 0 < m) (hs : 0 < size) :
    ∃ b off, A = some ⟨b, off, none⟩ ∧ b < w.heap.size ∧ ∀ j, j < m * size → w.cell? ⟨b, off + j, none⟩ = news[j]? := by
  obtain ⟨ad, rfl, hc⟩ := h.2.2 hm
  have hl : 0 < news.length := by rw [h.1]; exact Nat.mul_pos hm hs
  have h0 := hc 0 _ (List.getElem?_eq_getElem hl)
  rw [Addr.add_zero'] at h0
  have hlt := World.block_lt_of_cell? w ad h0
  obtain ⟨b, off, spot⟩ := ad
  cases spot with
  | some s =>
    unfold World.cell? at h0
    split at h0 <;> simp at h0
  | none =>
    refine ⟨b, off, rfl, hlt, fun j hj => ?_⟩
    rw [← Addr.add_lit, hc j _ (List.getElem?_eq_getElem (by rw [h.1]; exact hj)), List.getElem?_eq_getElem (by rw [h.1]; exact hj)]
theorem Src.below {w w' : World} {size m : Nat} {A : Option Addr} {news : List Value} (h : Src w size A m news) (hs : 0 < size) (hb : Below w.heap.size w w') : Src w' size A m news := by
  refine ⟨h.1, h.2.1, fun hm => ?_⟩
  obtain ⟨b, off, rfl, hlt, hc⟩ := h.form hm hs
  refine ⟨_, rfl, fun j u hu => ?_⟩
  have hj : j < m * size := by rw [← h.1]; exact (List.getElem?_eq_some_iff.1 hu).1
  rw [Addr.add_lit, hb.cell (p := ⟨b, off + j, none⟩) hlt, hc j hj, hu]

theorem heap_setCell_same {w : World} {g i : Nat} {cs : Array Value} {t : TypeId} (h : w.heap[g]? = some (.cells cs t (0, 0))) (u : Value) :
    (w.setCell ⟨g, i, none⟩ u).heap[g]? = some (.cells (cs.setIfInBounds i u) t (0, 0)) := by
  simp [World.setCell, Array.getElem?_modify, h]

/-- The network N lies behind block g; F are its blocks. -/
structure NetAt (w : World) (F : Nat → Prop) (g : Nat) (N : Net) (fv : Value) (fblk : Option Nat) (qb : Nat) (vs : List Value) (qblk : Nat → Option Nat) : Prop where
  head : w.heap[g]? = some (.cells #[fv, .int .i64 N.time, .int .i64 N.waiting, .slice (some ⟨qb, 0, none⟩) N.queues.length N.queues.length] 58 (0, 0))
  row : w.heap[qb]? = some (.cells vs.toArray 64 (0, 0))
  len : vs.length = N.queues.length
  fates : RowAt w 51 3 fv N.fates.length (flatF N.fates) fblk
  queue : ∀ h, h < N.queues.length → RowAt w 66 4 (vs.getD h undef) (N.queues.getD h []).length (flatL (N.queues.getD h [])) (qblk h)
  apart : ∀ h h' b, h < N.queues.length → h' < N.queues.length → qblk h = some b → qblk h' = some b → h = h'
  inG : F g
  inQ : F qb
  inF : ∀ b, fblk = some b → F b
  inL : ∀ h b, h < N.queues.length → qblk h = some b → F b
  lt : ∀ k, F k → k < w.heap.size

def NetRep (w : World) (F : Nat → Prop) (g : Nat) (N : Net) : Prop := ∃ fv fblk qb vs qblk, NetAt w F g N fv fblk qb vs qblk

theorem NetAt.keep {w w' : World} {F S : Nat → Prop} {g : Nat} {N : Net} {fv : Value} {fblk : Option Nat} {qb : Nat} {vs : List Value} {qblk : Nat → Option Nat} (h : NetAt w F g N fv fblk qb vs qblk) (hu : Upd S w w') (hd : ∀ k, F k → ¬ S k) : NetAt w' F g N fv fblk qb vs qblk :=
  ⟨hu.keep h.head (hd _ h.inG), hu.keep h.row (hd _ h.inQ), h.len, h.fates.keep hu (fun k hk => hd _ (h.inF k hk)), fun i hi => (h.queue i hi).keep hu (fun k hk => hd _ (h.inL i k hi hk)), h.apart, h.inG, h.inQ, h.inF, h.inL,
    fun k hk => Nat.lt_of_lt_of_le (h.lt k hk) hu.size⟩
theorem NetRep.keep {w w' : World} {F S : Nat → Prop} {g : Nat} {N : Net} (h : NetRep w F g N) (hu : Upd S w w') (hd : ∀ k, F k → ¬ S k) : NetRep w' F g N := by
  obtain ⟨a, b, c, d, e, h⟩ := h
  exact ⟨a, b, c, d, e, h.keep hu hd⟩
theorem NetAt.more {w : World} {F F' : Nat → Prop} {g : Nat} {N : Net} {fv : Value} {fblk : Option Nat} {qb : Nat} {vs : List Value} {qblk : Nat → Option Nat} (h : NetAt w F g N fv fblk qb vs qblk) (hf : ∀ k, F k → F' k) (hl : ∀ k, F' k → k < w.heap.size) : NetAt w F' g N fv fblk qb vs qblk :=
  ⟨h.head, h.row, h.len, h.fates, h.queue, h.apart, hf _ h.inG, hf _ h.inQ, fun b hb => hf _ (h.inF b hb), fun i b hi hb => hf _ (h.inL i b hi hb), hl⟩

section
variable {w : World} {F : Nat → Prop} {g : Nat} {N : Net} {fv : Value} {fblk : Option Nat} {qb : Nat} {vs : List Value} {qblk : Nat → Option Nat} (h : NetAt w F g N fv fblk qb vs qblk)
include h
theorem NetAt.c0 : w.cell? ⟨g, 0, none⟩ = some fv := by simp [World.cell?, h.head]
theorem NetAt.c1 : w.cell? ⟨g, 1, none⟩ = some (.int .i64 N.time) := by simp [World.cell?, h.head]
theorem NetAt.c2 : w.cell? ⟨g, 2, none⟩ = some (.int .i64 N.waiting) := by simp [World.cell?, h.head]
theorem NetAt.c3 : w.cell? ⟨g, 3, none⟩ = some (.slice (some ⟨qb, 0, none⟩) N.queues.length N.queues.length) := by simp [World.cell?, h.head]
theorem NetAt.fz (i : Nat) : w.frozen? ⟨g, i, none⟩ = false := by simp [World.frozen?, h.head]
theorem NetAt.fq (i : Nat) : w.frozen? ⟨qb, i, none⟩ = false := by simp [World.frozen?, h.row]
theorem NetAt.cq (i : Nat) (hi : i < N.queues.length) : w.cell? ⟨qb, i, none⟩ = some (vs.getD i undef) := by
  have : i < vs.length := by rw [h.len]; exact hi
  simp [World.cell?, h.row, this]
theorem NetAt.gq : g ≠ qb := by
  rintro rfl
  have := h.head.symm.trans h.row
  simp at this
end

/-- Returned v; the world as it was. -/
def Ret (v : Value) (w : World) (e : Ending) (w' : World) : Prop := e = .returned v ∧ w = w'
/-- Returned v; nothing old has turned. -/
def RetB (v : Value) (w : World) (e : Ending) (w' : World) : Prop := e = .returned v ∧ Below w.heap.size w w'

end Go.Proofs.Ytfpiiehdmdmoeaa
