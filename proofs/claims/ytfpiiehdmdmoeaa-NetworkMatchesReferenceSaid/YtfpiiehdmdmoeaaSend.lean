/-
  The contract of (*Network).Send.
-/
import Derived.Test.YtfpiiehdmdmoeaaRep2
namespace Go.Proofs.Ytfpiiehdmdmoeaa
open Go.RowKit

def Pkt.val (p : Pkt) : Value := .agg #[.int .i64 p.frm, .int .i64 p.dst, .string p.body]

set_option maxRecDepth 100000 in
theorem send_nil (a b : Int) (s : ByteArray) (w : World) : Calls Try.prog 14 #[.pointer none, .agg #[.int .i64 a, .int .i64 b, .string s]] w (RetB (.int .i64 1) w) := by
  go_enter Try.func14, Try.ntmps14
  go_wp2
  go_ret
  exact ⟨rfl, (Below.refl _ _).alloc (Nat.le_refl _) _⟩

theorem netpost_same {v : Value} {F : Nat → Prop} {g : Nat} {N : Net} {w w' : World} (hr : NetRep w F g N) (hb : Below w.heap.size w w') : NetPost v F g N w (.returned v) w' := by
  have hu : Upd (fun k => w.heap.size ≤ k) w w' := Upd.of_below hb
  obtain ⟨fv, fblk, qb, vs, qblk, hr⟩ := hr
  refine ⟨rfl, ⟨fv, fblk, qb, vs, qblk, (hr.keep hu (fun k hk => by have := hr.lt k hk; omega)).more (fun k hk => .inl hk) ?_⟩, hu.mono (fun i hi h => by omega)⟩
  rintro k (hk | hk)
  · exact Nat.lt_of_lt_of_le (hr.lt k hk) hb.size
  · exact hk.2

set_option maxRecDepth 100000 in
set_option maxHeartbeats 400000 in
theorem send_bad {w : World} {F : Nat → Prop} {g : Nat} {N : Net} (hr : NetRep w F g N) (p : Pkt) (hb : okSend N.queues.length p = false) :
    Calls Try.prog 14 #[.pointer (some ⟨g, 0, none⟩), .agg #[.int .i64 p.frm, .int .i64 p.dst, .string p.body]] w (NetPost (.int .i64 1) F g N w) := by
  obtain ⟨a, b, s⟩ := p
  have hr1 : NetRep (w.alloc (.cells #[.int .i64 a, .int .i64 b, .string s] 31)) F g N := hr.keep (S := fun _ => False) ((Upd.refl _ w).alloc _) (fun _ _ h => h)
  have H := Lib.hid hr; clear hr
  have H1 := Lib.hid hr1; clear hr1
  simp only [okSend, Bool.and_eq_false_iff] at hb
  cases ea : okHouse N.queues.length a with
  | false =>
    clear hb
    go_enter Try.func14, Try.ntmps14
    go_wp2_with (go_at_call 30; refine (has_any _ H1.out).mono ?_; rintro e w' ⟨rfl, rfl⟩)
    go_ret
    exact netpost_same H.out ((Below.refl _ _).alloc (Nat.le_refl _) _)
  | true =>
    cases eb : okHouse N.queues.length b with
    | false =>
      clear hb
      go_enter Try.func14, Try.ntmps14
      go_wp2_with (go_at_call 30; refine (has_any _ H1.out).mono ?_; rintro e w' ⟨rfl, rfl⟩)
      go_ret
      exact netpost_same H.out ((Below.refl _ _).alloc (Nat.le_refl _) _)
    | true =>
      have hab : a = b := by simpa [ea, eb] using hb
      subst hab
      clear hb
      go_enter Try.func14, Try.ntmps14
      go_wp2_with (go_at_call 30; refine (has_any _ H1.out).mono ?_; rintro e w' ⟨rfl, rfl⟩)
      go_ret
      exact netpost_same H.out ((Below.refl _ _).alloc (Nat.le_refl _) _)
end Go.Proofs.Ytfpiiehdmdmoeaa
