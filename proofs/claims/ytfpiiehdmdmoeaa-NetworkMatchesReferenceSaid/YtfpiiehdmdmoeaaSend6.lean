/-
  The contract of (*Network).Send where the packet is valid.
-/
import Derived.Test.YtfpiiehdmdmoeaaSend4
import Derived.Test.YtfpiiehdmdmoeaaSend5
import Derived.Deep.DeepCutAuto
import Derived.Deep.LoopGhost
import Derived.Deep.CutBlock
namespace Go.Proofs.Ytfpiiehdmdmoeaa
open Go.RowKit

set_option maxRecDepth 100000 in
set_option maxHeartbeats 1000000 in
theorem send_full0 {w : World} {F : Nat → Prop} {g : Nat} {N : Net} (hr : NetRep w F g N) (hok : N.Ok) (p : Pkt) (hb : okSend N.queues.length p = true) (hf : N.fates = []) (hlow : 4000 < N.waiting + 1) :
    Calls Try.prog 14 #[.pointer (some ⟨g, 0, none⟩), .agg #[.int .i64 p.frm, .int .i64 p.dst, .string p.body]] w (NetPost (.int .i64 3) F g N w) := by
  obtain ⟨a, b, s⟩ := p
  have hr1 : NetRep (w.alloc (.cells #[.int .i64 a, .int .i64 b, .string s] 31)) F g N := hr.keep (S := fun _ => False) ((Upd.refl _ w).alloc _) (fun _ _ h => h)
  obtain ⟨fv, fblk, qb, vs, qblk, hr⟩ := hr
  simp only [okSend, Bool.and_eq_true] at hb
  obtain ⟨⟨ea, eb⟩, eab⟩ := hb
  have eab' : (a == b) = false := by simpa using eab
  have hgl := hr.lt g hr.inG
  have ht := hok.time
  obtain ⟨fA, fcap, hfv, _, _⟩ := hr.fates.val
  rw [hf] at hfv
  simp only [List.length_nil] at hfv
  subst hfv
  have c0 := hr.c0
  have c1 := hr.c1
  have c2 := hr.c2
  have c3 := hr.c3
  have H := Lib.hid hr; clear hr
  have H1 := Lib.hid hr1; clear hr1
  have Hok := Lib.hid hok; clear hok
  have Hf := Lib.hid hf; clear hf
  have hlow4 := Hok.out.low
  have hdd : decide (4000 < (N.waiting : Int) + 1) = true := by simp; omega
  go_enter Try.func14, Try.ntmps14
  go_wp2_with (go_at_call 30; refine (has_any _ H1.out).mono ?_; rintro e w' ⟨rfl, rfl⟩)
  go_ret
  exact netpost_same ⟨_, _, _, _, _, H.out⟩ (((Below.refl _ _).alloc (Nat.le_refl _) _).alloc (by simp) _)

set_option maxRecDepth 100000 in
set_option maxHeartbeats 1000000 in
theorem send_full1 {w : World} {F : Nat → Prop} {g : Nat} {N : Net} (hr : NetRep w F g N) (hok : N.Ok) (p : Pkt) (hb : okSend N.queues.length p = true) (f : Fate) (fs : List Fate) (hf : N.fates = f :: fs) (hl : f.lost = false) (hlow : 4000 < N.waiting + f.many) :
    Calls Try.prog 14 #[.pointer (some ⟨g, 0, none⟩), .agg #[.int .i64 p.frm, .int .i64 p.dst, .string p.body]] w (NetPost (.int .i64 3) F g N w) := by
  obtain ⟨fl, c, d⟩ := f
  obtain rfl : fl = false := hl
  obtain ⟨a, b, s⟩ := p
  have hr1 : NetRep (w.alloc (.cells #[.int .i64 a, .int .i64 b, .string s] 31)) F g N := hr.keep (S := fun _ => False) ((Upd.refl _ w).alloc _) (fun _ _ h => h)
  obtain ⟨fv, fblk, qb, vs, qblk, hr⟩ := hr
  simp only [okSend, Bool.and_eq_true] at hb
  obtain ⟨⟨ea, eb⟩, eab⟩ := hb
  have eab' : (a == b) = false := by simpa using eab
  have hgl := hr.lt g hr.inG
  have ht := hok.time
  obtain ⟨fb, foff, fcap, hfbk, hfv, hfc1, hfc2, hfbl, hfcell, _⟩ := hr.fates.form (by rw [hf]; simp)
  subst hfv
  rw [hf] at hfcell
  have hfl : N.fates.length = fs.length + 1 := by rw [hf]; rfl
  rw [hfl] at hfc1
  unfold maxLen at hfc2
  have x0 : w.cell? ⟨fb, foff, none⟩ = some (.bool false) := (hfcell 0 (by simp)).trans rfl
  have x1 : w.cell? ⟨fb, foff + 1, none⟩ = some (.int .i64 c) := (hfcell 1 (by simp; omega)).trans rfl
  have x2 : w.cell? ⟨fb, foff + 2, none⟩ = some (.int .i64 d) := (hfcell 2 (by simp; omega)).trans rfl
  have hfok := hok.fates ⟨false, c, d⟩ (by rw [hf]; simp)
  simp [Fate.ok] at hfok
  obtain ⟨⟨⟨hc0, hc9⟩, hd0⟩, hd1⟩ := hfok
  obtain ⟨cn, rfl⟩ := Int.eq_ofNat_of_zero_le (show 0 ≤ c by omega)
  have hlow' : 4000 < N.waiting + cn := by simpa [Fate.many] using hlow
  clear hlow
  have hdd : decide (4000 < (N.waiting : Int) + cn) = true := by simp; omega
  have c0 := hr.c0
  rw [hfl] at c0
  have c1 := hr.c1
  have c2 := hr.c2
  have c3 := hr.c3
  have z0 := hr.fz 0
  have hlow4 := hok.low
  have H := Lib.hid hr; clear hr
  have H1 := Lib.hid hr1; clear hr1
  have Hok := Lib.hid hok; clear hok
  have Hf := Lib.hid hf; clear hf
  have Hfl := Lib.hid hfl; clear hfl
  have Hfc := Lib.hid hfcell; clear hfcell
  go_enter Try.func14, Try.ntmps14
  go_wp2_with (go_at_call 30; refine (has_any _ H1.out).mono ?_; rintro e w' ⟨rfl, rfl⟩)
  go_ret
  exact netpost_same ⟨_, _, _, _, _, H.out⟩ (((Below.refl _ _).alloc (Nat.le_refl _) _).alloc (by simp) _)

theorem send_net {w : World} {F : Nat → Prop} {g : Nat} {N : Net} (hr : NetRep w F g N) (hok : N.Ok) (p : Pkt) :
    Calls Try.prog 14 #[.pointer (some ⟨g, 0, none⟩), p.val] w (NetPost (.int .i64 (N.send p).2) F g (N.send p).1 w) := by
  unfold Pkt.val
  cases hs : okSend N.queues.length p with
  | false =>
    have e : N.send p = (N, 1) := by unfold Net.send; rw [if_pos hs]
    rw [e]
    exact send_bad hr p hs
  | true =>
    have eq : ∀ f, N.fates.headD one = f → 4000 < N.waiting + f.many → N.send p = (N, 3) := fun f hf hl => by
      subst hf
      unfold Net.send
      rw [if_neg (by simp [hs]), if_pos hl]
    have eq0 : ∀ f, N.fates.headD one = f → N.waiting + f.many ≤ 4000 → (N.send p).2 = 0 := fun f hf hl => by rw [send_eq N p hs f hf f.many rfl hl]
    cases hf : N.fates with
    | nil =>
      by_cases hl : 4000 < N.waiting + 1
      · rw [eq one (by rw [hf]; rfl) hl]
        exact send_full0 hr hok p hs hf hl
      · rw [eq0 one (by rw [hf]; rfl) (by show N.waiting + 1 ≤ 4000; omega)]
        exact send_none hr hok p hs hf (by omega)
    | cons f fs =>
      have hh : N.fates.headD one = f := by rw [hf]; rfl
      by_cases hl : 4000 < N.waiting + f.many
      · rw [eq f hh hl]
        refine send_full1 hr hok p hs f fs hf ?_ hl
        have hlow := hok.low
        unfold Fate.many at hl
        cases hx : f.lost with
        | false => rfl
        | true => rw [hx] at hl; simp at hl; omega
      · rw [eq0 f hh (by omega)]
        cases hx : f.lost with
        | true => exact send_lost hr hok p hs f fs hf hx
        | false =>
          obtain ⟨fv, fblk, qb, vs, qblk, hn⟩ := hr
          obtain ⟨A, cap, hv, _, _⟩ := hn.fates.val
          have uniq : ∀ fv' fblk' qb' vs' qblk' A' n' cap', NetAt w F g N fv' fblk' qb' vs' qblk' → fv' = .slice A' n' cap' → cap' = cap := by
            intro fv' fblk' qb' vs' qblk' A' n' cap' h' hv'
            have e := h'.head.symm.trans hn.head
            simp at e
            have := hv'.symm.trans (e.1.trans hv)
            injection this
          by_cases hc : cap = 1
          · exact send_some1 ⟨_, _, _, _, _, hn⟩ hok p hs f fs hf hx (by omega) (fun fv' fblk' qb' vs' qblk' A' n' cap' h' hv' => (uniq fv' fblk' qb' vs' qblk' A' n' cap' h' hv').trans hc)
          · exact send_some2 ⟨_, _, _, _, _, hn⟩ hok p hs f fs hf hx (by omega) (fun fv' fblk' qb' vs' qblk' A' n' cap' h' hv' e => hc ((uniq fv' fblk' qb' vs' qblk' A' n' cap' h' hv').symm.trans e))
end Go.Proofs.Ytfpiiehdmdmoeaa
