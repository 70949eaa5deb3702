/-
  The memory of a play: the network's blocks, the book's blocks, and what was there before.
-/
import Derived.Test.YtfpiiehdmdmoeaaLaw
namespace Go.Proofs.Ytfpiiehdmdmoeaa
open Go.RowKit

theorem Src.upd {w w' : World} {S : Nat → Prop} {size m : Nat} {A : Option Addr} {news : List Value} (h : Src w size A m news) (hs : 0 < size) (hn : ∀ ad, A = some ad → 0 < m → ¬ S ad.block) (hu : Upd S w w') : Src w' size A m news := by
  refine ⟨h.1, h.2.1, fun hm => ?_⟩
  obtain ⟨b, off, rfl, hlt, hc⟩ := h.form hm hs
  refine ⟨_, rfl, fun j u hj => ?_⟩
  have hj2 : j < m * size := by rw [← h.1]; exact (List.getElem?_eq_some_iff.1 hj).1
  rw [Addr.add_lit, World.cell?_of_block (w := w) (a := ⟨b, off + j, none⟩) (hu.block b hlt (hn _ rfl hm)), hc j hj2, hj]

/-- An argument that lies outside the blocks F0. -/
def ArgX (w : World) (F0 : Nat → Prop) (size : Nat) (v : Value) (n : Nat) (xs : List Value) : Prop :=
  ∃ A c, v = .slice A n c ∧ Src w size A n xs ∧ (A = none → n = 0 ∧ c = 0) ∧ ∀ ad, A = some ad → 0 < n → ¬ F0 ad.block

structure PlayAt (w : World) (F0 F G : Nat → Prop) (g bb gb : Nat) (N : Net) (sent : List Pkt) (got : List (List Pkt)) (wr : World) : Prop where
  net : NetRep wr F g N
  book : BookRep wr G bb gb sent got
  apart : ∀ k, F k → ¬ G k
  lowF : ∀ k, F k → F0 k ∨ w.heap.size < k
  lowG : ∀ k, G k → w.heap.size < k
  old : ∀ k, F0 k → k < w.heap.size
  upd : Upd F0 w wr
  res : wr.heap[w.heap.size]? = some (.cells #[.slice none 0 0, .slice none 0 0] 46 (0, 0))

theorem NetRep.lt {w : World} {F : Nat → Prop} {g : Nat} {N : Net} (h : NetRep w F g N) : ∀ k, F k → k < w.heap.size := by
  obtain ⟨_, _, _, _, _, h⟩ := h
  exact h.lt
theorem BookRep.lt {w : World} {G : Nat → Prop} {bb gb : Nat} {sent : List Pkt} {got : List (List Pkt)} (h : BookRep w G bb gb sent got) : ∀ k, G k → k < w.heap.size := by
  obtain ⟨_, _, _, _, h⟩ := h
  exact h.lt

section
variable {w : World} {F0 F G : Nat → Prop} {g bb gb : Nat} {N N' : Net} {sent sent' : List Pkt} {got got' : List (List Pkt)} {wr w' : World}
theorem PlayAt.resF (h : PlayAt w F0 F G g bb gb N sent got wr) : ¬ F w.heap.size := fun hc => by
  rcases h.lowF _ hc with h1 | h1
  · have := h.old _ h1; omega
  · omega
theorem PlayAt.resG (h : PlayAt w F0 F G g bb gb N sent got wr) : ¬ G w.heap.size := fun hc => by
  have := h.lowG _ hc; omega
/-- The network has turned. -/
theorem PlayAt.onNet (h : PlayAt w F0 F G g bb gb N sent got wr) (hn : NetRep w' (fun k => F k ∨ (wr.heap.size ≤ k ∧ k < w'.heap.size)) g N') (hu : Upd F wr w') :
    PlayAt w F0 (fun k => F k ∨ (wr.heap.size ≤ k ∧ k < w'.heap.size)) G g bb gb N' sent got w' := by
  have hsz := lt_of_heap h.res
  refine ⟨hn, h.book.keep hu (fun k hk hc => h.apart k hc hk), fun k hk hg => ?_, fun k hk => ?_, h.lowG, h.old, h.upd.trans hu (fun i hi hf => ?_), hu.keep h.res h.resF⟩
  · rcases hk with hk | hk
    · exact h.apart k hk hg
    · have := h.book.lt k hg; omega
  · rcases hk with hk | hk
    · exact h.lowF k hk
    · exact .inr (by omega)
  · rcases h.lowF i hf with h1 | h1
    · exact h1
    · omega
/-- The network has turned, in its own blocks. -/
theorem PlayAt.onNetS (h : PlayAt w F0 F G g bb gb N sent got wr) (hn : NetRep w' F g N') (hu : Upd F wr w') : PlayAt w F0 F G g bb gb N' sent got w' :=
  ⟨hn, h.book.keep hu (fun k hk hc => h.apart k hc hk), h.apart, h.lowF, h.lowG, h.old, h.upd.trans hu (fun i hi hf => by
    rcases h.lowF i hf with h1 | h1
    · exact h1
    · omega), hu.keep h.res h.resF⟩
/-- The book has turned. -/
theorem PlayAt.onBook (h : PlayAt w F0 F G g bb gb N sent got wr) {n : Nat} (hb : BookRep w' (fun k => G k ∨ (wr.heap.size ≤ k ∧ k < n)) bb gb sent' got') (hu : Upd G wr w') :
    PlayAt w F0 F (fun k => G k ∨ (wr.heap.size ≤ k ∧ k < n)) g bb gb N sent' got' w' := by
  have hsz := lt_of_heap h.res
  refine ⟨h.net.keep hu (fun k hk hc => h.apart k hk hc), hb, fun k hk hg => ?_, h.lowF, fun k hk => ?_, h.old, h.upd.trans hu (fun i hi hf => ?_), hu.keep h.res h.resG⟩
  · rcases hg with hg | hg
    · exact h.apart k hk hg
    · have := h.net.lt k hk; omega
  · rcases hk with hk | hk
    · exact h.lowG k hk
    · omega
  · have := h.lowG i hf; omega
/-- New blocks only. -/
theorem PlayAt.onNew (h : PlayAt w F0 F G g bb gb N sent got wr) (hu : Upd (fun _ => False) wr w') : PlayAt w F0 F G g bb gb N sent got w' :=
  ⟨h.net.keep hu (fun _ _ h => h), h.book.keep hu (fun _ _ h => h), h.apart, h.lowF, h.lowG, h.old, h.upd.trans hu (fun _ _ h => h.elim), hu.keep h.res (fun h => h)⟩
end

/-- Behind a play: the network and the book, their blocks, and what was there before. -/
structure PlayOut (F0 : Nat → Prop) (g : Nat) (s : St) (w : World) (sv : Value) (bb gb : Nat) (F G : Nat → Prop) (w' : World) : Prop where
  net : NetRep w' F g s.net
  book : BookRep w' G bb gb s.sent s.got
  sv : w'.cell? ⟨bb, 0, none⟩ = some sv
  apart : ∀ k, F k → ¬ G k
  lowF : ∀ k, F k → F0 k ∨ w.heap.size < k
  lowG : ∀ k, G k → w.heap.size < k
  upd : Upd F0 w w'

def PlayPost (F0 : Nat → Prop) (g : Nat) (s : St) (w : World) (e : Ending) (w' : World) : Prop :=
  ∃ (sv : Value) (bb gb : Nat) (F G : Nat → Prop), e = .returned (.agg #[sv, .slice (some ⟨gb, 0, none⟩) s.got.length s.got.length]) ∧ PlayOut F0 g s w sv bb gb F G w'
end Go.Proofs.Ytfpiiehdmdmoeaa
