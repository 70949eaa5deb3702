/-
  A network and its reference in one memory: what each call leaves of both.
-/
import Derived.Test.YtfpiiehdmdmoeaaRefL
import Derived.Test.YtfpiiehdmdmoeaaRefK
import Derived.Test.YtfpiiehdmdmoeaaHead
import Derived.Test.YtfpiiehdmdmoeaaCmp
namespace Go.Proofs.Ytfpiiehdmdmoeaa
open Go.RowKit

/-- Both lie in memory, apart from each other, all in blocks newer than those of w; they answer alike. -/
structure Pair (w wr : World) (g1 g2 : Nat) (N : Net) (R : Rf) (F1 F2 : Nat → Prop) : Prop where
  net : NetRep wr F1 g1 N
  ref : RefRep wr F2 g2 R
  sim : Sim N R
  ok : N.Ok
  apart : ∀ k, F1 k → ¬ F2 k
  new1 : ∀ k, F1 k → w.heap.size ≤ k
  new2 : ∀ k, F2 k → w.heap.size ≤ k
  below : Below w.heap.size w wr

theorem Pair.rok {w wr : World} {g1 g2 : Nat} {N : Net} {R : Rf} {F1 F2 : Nat → Prop} (h : Pair w wr g1 g2 N R F1 F2) : R.Ok :=
  ⟨by rw [← h.sim.fates]; exact h.ok.fates, by rw [← h.sim.wait]; exact h.ok.low, by rw [← h.sim.time]; exact h.ok.time⟩

theorem NetRep.lt' {w : World} {F : Nat → Prop} {g : Nat} {N : Net} (h : NetRep w F g N) : ∀ k, F k → k < w.heap.size := by
  obtain ⟨_, _, _, _, _, h⟩ := h
  exact h.lt

section
variable {w wr : World} {g1 g2 : Nat} {N : Net} {R : Rf} {F1 F2 : Nat → Prop}

/-- Nothing old of either has turned. -/
theorem Pair.on (h : Pair w wr g1 g2 N R F1 F2) {wx : World} (hb : Below wr.heap.size wr wx) : Pair w wx g1 g2 N R F1 F2 :=
  ⟨h.net.keep (Upd.of_below hb) (fun k hk hc => by have := h.net.lt' k hk; omega), h.ref.keep (Upd.of_below hb) (fun k hk hc => by have := h.ref.lt k hk; omega), h.sim, h.ok, h.apart, h.new1, h.new2, h.below.trans (hb.mono h.below.size)⟩
theorem Pair.drew (h : Pair w wr g1 g2 N R F1 F2) : Pair w wr.drew g1 g2 N R F1 F2 := h.on (Below.refl _ _).drew

/-- A call on the network, then one on the reference. -/
theorem Pair.both (h : Pair w wr g1 g2 N R F1 F2) {wx : World} {N' : Net} {F1' : Nat → Prop} (hn : NetRep wx F1' g1 N') (hu : Upd F1 wr wx) (hF : ∀ k, F1' k → F1 k ∨ (wr.heap.size ≤ k ∧ k < wx.heap.size))
    {wy : World} {R' : Rf} (hr : RefRep wy (fun k => F2 k ∨ (wx.heap.size ≤ k ∧ k < wy.heap.size)) g2 R') (hu2 : Upd F2 wx wy) (hs : Sim N' R') (hok : N'.Ok) :
    ∃ F2', Pair w wy g1 g2 N' R' F1' F2' := by
  have hz := h.below.size
  have hz1 := hu.size
  have hz2 := hu2.size
  refine ⟨_, hn.keep hu2 (fun k hk hc => ?_), hr, hs, hok, fun k hk hc => ?_, fun k hk => ?_, fun k hk => ?_, ?_⟩
  · rcases hF k hk with h1 | h1
    · exact h.apart k h1 hc
    · have := h.ref.lt k hc; omega
  · have hl := hn.lt' k hk
    rcases hF k hk with h1 | h1
    · rcases hc with h2 | h2
      · exact h.apart k h1 h2
      · omega
    · rcases hc with h2 | h2
      · have := h.ref.lt k h2; omega
      · omega
  · rcases hF k hk with h1 | h1
    · exact h.new1 k h1
    · omega
  · rcases hk with h1 | h1
    · exact h.new2 k h1
    · omega
  · exact (h.below.trans (hu.below hz h.new1)).trans (hu2.below (by omega) h.new2)
theorem Pair.refAt (h : Pair w wr g1 g2 N R F1 F2) {wx : World} (hu : Upd F1 wr wx) : RefRep wx F2 g2 R := h.ref.keep hu (fun k hk hc => h.apart k hc hk)
end

theorem send_time (N : Net) (p : Pkt) : (N.send p).1.time = N.time := by
  unfold Net.send
  split
  · rfl
  · simp only
    split <;> rfl
theorem recv_len {N : Net} (hok : N.Ok) (h : Int) : (N.recv h).2.1.length ≤ 4000 := by
  unfold Net.recv
  split
  · simp
  · rename_i hs
    simp only [List.length_map]
    simp only [Bool.not_eq_false] at hs
    obtain ⟨h0, h1⟩ := okHouse_yes hs
    have hq : N.queues.getD h.toNat [] ∈ N.queues := by
      have : h.toNat < N.queues.length := by omega
      simp [this]
    have h2 := arrived_le N.time (N.queues.getD h.toNat [])
    have h3 := len_le_total hq
    have h4 := hok.wait
    have h5 := hok.low
    omega
theorem Pair.wait1 {w wr : World} {g1 g2 : Nat} {N : Net} {R : Rf} {F1 F2 : Nat → Prop} (h : Pair w wr g1 g2 N R F1 F2) : Calls Try.prog 21 #[.pointer (some ⟨g1, 0, none⟩)] wr (Ret (.int .i64 N.waiting) wr) := waiting_net h.net
theorem Pair.wait2 {w wr : World} {g1 g2 : Nat} {N : Net} {R : Rf} {F1 F2 : Nat → Prop} (h : Pair w wr g1 g2 N R F1 F2) : Calls Try.prog 22 #[.pointer (some ⟨g2, 0, none⟩)] wr (Ret (.int .i64 N.waiting) wr) := by
  have := rwaiting_ref h.ref
  rw [← h.sim.wait] at this
  exact this
theorem recv_time (N : Net) (h : Int) : (N.recv h).1.time = N.time := by
  unfold Net.recv
  split <;> rfl
end Go.Proofs.Ytfpiiehdmdmoeaa
