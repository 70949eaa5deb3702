/-
  The contracts of (*Network).has, Step, Waiting.
-/
import Derived.Test.YtfpiiehdmdmoeaaRep
namespace Go.Proofs.Ytfpiiehdmdmoeaa
open Go.RowKit

set_option maxHeartbeats 400000 in
theorem has_yes {w : World} {F : Nat → Prop} {g : Nat} {N : Net} (h : Int) (hr : NetRep w F g N) (h0 : 0 ≤ h) (h1 : h < N.queues.length) :
    Calls Try.prog 30 #[.pointer (some ⟨g, 0, none⟩), .int .i64 h] w (Ret (.bool true) w) := by
  obtain ⟨fv, fblk, qb, vs, qblk, hr⟩ := hr
  have c3 := hr.c3
  have H := Lib.hid hr; clear hr
  have h2 : (0 : Int) ≤ h := h0
  go_enter Try.func30, Try.ntmps30
  go_wp2
  go_ret
  exact ⟨rfl, rfl⟩

set_option maxHeartbeats 400000 in
theorem has_no {w : World} {F : Nat → Prop} {g : Nat} {N : Net} (h : Int) (hr : NetRep w F g N) (hn : h < 0 ∨ N.queues.length ≤ h) :
    Calls Try.prog 30 #[.pointer (some ⟨g, 0, none⟩), .int .i64 h] w (Ret (.bool false) w) := by
  obtain ⟨fv, fblk, qb, vs, qblk, hr⟩ := hr
  have c3 := hr.c3
  have H := Lib.hid hr; clear hr
  rcases hn with hn | hn
  · have hd : decide (0 ≤ h) = false := by simpa using hn
    go_enter Try.func30, Try.ntmps30
    go_wp2
    go_ret
    exact ⟨rfl, rfl⟩
  · have h0 : 0 ≤ h := by omega
    have hd2 : decide (h < (N.queues.length : Int)) = false := by simpa using hn
    go_enter Try.func30, Try.ntmps30
    go_wp2
    go_ret
    exact ⟨rfl, rfl⟩

theorem has_any {w : World} {F : Nat → Prop} {g : Nat} {N : Net} (h : Int) (hr : NetRep w F g N) : Calls Try.prog 30 #[.pointer (some ⟨g, 0, none⟩), .int .i64 h] w (Ret (.bool (okHouse N.queues.length h)) w) := by
  cases e : okHouse N.queues.length h with
  | true => exact has_yes h hr (okHouse_yes e).1 (okHouse_yes e).2
  | false => exact has_no h hr (okHouse_no e)

theorem step_nil (w : World) : Calls Try.prog 19 #[.pointer none] w (Ret (.tuple #[]) w) := by
  go_enter Try.func19, Try.ntmps19
  go_wp2
  go_end0
  exact ⟨rfl, rfl⟩

/-- Behind the call the network is N'; of the old blocks only its own may have turned; its blocks are the old ones and new ones. -/
def NetPost (v : Value) (F : Nat → Prop) (g : Nat) (N' : Net) (w : World) (e : Ending) (w' : World) : Prop :=
  e = .returned v ∧ NetRep w' (fun k => F k ∨ (w.heap.size ≤ k ∧ k < w'.heap.size)) g N' ∧ Upd F w w'

set_option maxHeartbeats 400000 in
theorem step_net {w : World} {F : Nat → Prop} {g : Nat} {N : Net} (hr : NetRep w F g N) (ht : N.time ≤ 1000000) :
    Calls Try.prog 19 #[.pointer (some ⟨g, 0, none⟩)] w (NetPost (.tuple #[]) F g N.step w) := by
  obtain ⟨fv, fblk, qb, vs, qblk, hr⟩ := hr
  have c1 := hr.c1
  have f1 := hr.fz 1
  have H := Lib.hid hr; clear hr
  go_enter Try.func19, Try.ntmps19
  go_wp2
  go_end0
  have hr := H.out
  have hu : Upd (fun k => k = g) w (w.setCell ⟨g, 1, none⟩ (.int .i64 (N.time + 1))) := (Upd.refl (fun k => k = g) w).setCell (.inl rfl) _
  have huF : Upd F w (w.setCell ⟨g, 1, none⟩ (.int .i64 (N.time + 1))) := hu.mono (fun i _ h => by rw [h]; exact hr.inG)
  refine ⟨rfl, ⟨fv, fblk, qb, vs, qblk, ?_⟩, huF⟩
  have hne := hr.gq
  have hn1 : ∀ k, fblk = some k → ¬ k = g := by
    rintro k hk rfl
    rcases hr.fates.2 with ⟨_, _, h0⟩ | ⟨g', _, _, _, hb, _, hg, _⟩
    · rw [h0] at hk; cases hk
    · rw [hk] at hb; injection hb with hb; subst hb
      have := hr.head.symm.trans hg
      simp at this
  have hn2 : ∀ h k, h < N.queues.length → qblk h = some k → ¬ k = g := by
    rintro h k hl hk rfl
    rcases (hr.queue h hl).2 with ⟨_, _, h0⟩ | ⟨g', _, _, _, hb, _, hg, _⟩
    · rw [h0] at hk; cases hk
    · rw [hk] at hb; injection hb with hb; subst hb
      have := hr.head.symm.trans hg
      simp at this
  exact ⟨(heap_setCell_same hr.head _).trans (by simp [Net.step]), hu.keep hr.row (fun h => hne h.symm), hr.len, hr.fates.keep hu hn1, fun i hi => (hr.queue i hi).keep hu (fun k hk => hn2 i k hi hk), hr.apart, .inl hr.inG, .inl hr.inQ, fun b hb => .inl (hr.inF b hb), fun i b hi hb => .inl (hr.inL i b hi hb),
    fun k hk => by
      rcases hk with hk | hk
      · exact Nat.lt_of_lt_of_le (hr.lt k hk) hu.size
      · exact hk.2⟩

theorem waiting_nil (w : World) : Calls Try.prog 21 #[.pointer none] w (Ret (.int .i64 0) w) := by
  go_enter Try.func21, Try.ntmps21
  go_wp2
  go_ret
  exact ⟨rfl, rfl⟩

set_option maxHeartbeats 400000 in
theorem waiting_net {w : World} {F : Nat → Prop} {g : Nat} {N : Net} (hr : NetRep w F g N) : Calls Try.prog 21 #[.pointer (some ⟨g, 0, none⟩)] w (Ret (.int .i64 N.waiting) w) := by
  obtain ⟨fv, fblk, qb, vs, qblk, hr⟩ := hr
  have c2 := hr.c2
  have H := Lib.hid hr; clear hr
  go_enter Try.func21, Try.ntmps21
  go_wp2
  go_ret
  exact ⟨rfl, rfl⟩
end Go.Proofs.Ytfpiiehdmdmoeaa
