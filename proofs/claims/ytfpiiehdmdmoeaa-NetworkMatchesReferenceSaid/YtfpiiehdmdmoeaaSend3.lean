/-
  The contract of (*Network).Send where the packet is valid and its fate is lost.
-/
import Derived.Test.YtfpiiehdmdmoeaaSend2
import Derived.Deep.DeepCutAuto
import Derived.Deep.LoopGhost
import Derived.Deep.CutBlock
namespace Go.Proofs.Ytfpiiehdmdmoeaa
open Go.RowKit

theorem cut_fates {w : World} {F : Nat → Prop} {g : Nat} {N : Net} {fblk : Option Nat} {qb : Nat} {vs : List Value} {qblk : Nat → Option Nat} {fb foff fcap : Nat} {f : Fate} {fs : List Fate}
    (hr : NetAt w F g N (.slice (some ⟨fb, foff, none⟩) N.fates.length fcap) fblk qb vs qblk) (hf : N.fates = f :: fs) {V : Value} (hV : V = Value.slice (if fcap = 1 then some ⟨fb, foff, none⟩ else some ⟨fb, foff + 3, none⟩) fs.length (fcap - 1)) (hc : fs.length + 1 ≤ fcap) :
    RowAt w 51 3 V fs.length (flatF fs) fblk := by
  have h := hr.fates
  rw [hf] at h
  have h1 := h.cut (k := 1) (c' := fcap - 1) rfl (by simp) (by simp; omega) (by omega)
  simp only [List.length_cons, Nat.add_sub_cancel, Nat.one_mul] at h1
  have hd : (flatF (f :: fs)).drop 3 = flatF fs := rfl
  rw [hd] at h1
  by_cases e : fcap = 1
  · subst e
    have hs : fs = [] := List.eq_nil_of_length_eq_zero (by omega)
    subst hs
    subst hV
    refine ⟨by simp [flatF], .inr ?_⟩
    rcases h1.2 with ⟨h0, _⟩ | ⟨g', off', cap', cur, hb, hv, hg, h2, h3, h4, h5⟩
    · cases h0
    · injection hv with e1 e2 e3
      injection e1 with e1
      injection e1 with e1 e4
      subst e1
      exact ⟨fb, foff, 0, cur, hb, by simp, hg, by simp, by omega, by omega, by simp [flatF]⟩
  · rw [if_neg e] at hV
    subst hV
    exact h1

theorem fates_post {v : Value} {w : World} {F : Nat → Prop} {g : Nat} {N : Net} {fv : Value} {fblk : Option Nat} {qb : Nat} {vs : List Value} {qblk : Nat → Option Nat} {fs : List Fate}
    (hr : NetAt w F g N fv fblk qb vs qblk) (o1 o2 : Obj) (V : Value) (hrow : RowAt w 51 3 V fs.length (flatF fs) fblk) :
    NetPost v F g ⟨fs, N.time, N.waiting, N.queues⟩ w (.returned v) (((w.setCell ⟨g, 0, none⟩ V).alloc o1).alloc o2) := by
  obtain ⟨h1, h2⟩ := hr.setFates V fs hrow rfl
  have hu : Upd (fun _ => False) (w.setCell ⟨g, 0, none⟩ V) (((w.setCell ⟨g, 0, none⟩ V).alloc o1).alloc o2) := ((Upd.refl _ _).alloc _).alloc _
  have huF : Upd F w (((w.setCell ⟨g, 0, none⟩ V).alloc o1).alloc o2) := (h2.mono (S' := F) (fun i _ hi => by rw [hi]; exact hr.inG)).trans hu (fun _ _ h => h.elim)
  have h3 := h1.keep hu (fun _ _ h => h)
  refine ⟨rfl, ⟨_, _, _, _, _, h3.more (fun i hi => .inl hi) (fun i hi => ?_)⟩, huF⟩
  rcases hi with hi | hi
  · exact h3.lt i hi
  · exact hi.2

theorem set_self {α : Type} : ∀ (l : List (List α)) (i : Nat), l.set i (l.getD i []) = l
  | [], _ => rfl
  | a :: l, 0 => by simp
  | a :: l, i + 1 => by simpa using set_self l i

set_option maxRecDepth 100000 in
set_option maxHeartbeats 1000000 in
theorem send_lost {w : World} {F : Nat → Prop} {g : Nat} {N : Net} (hr : NetRep w F g N) (hok : N.Ok) (p : Pkt) (hb : okSend N.queues.length p = true) (f : Fate) (fs : List Fate) (hf : N.fates = f :: fs) (hl : f.lost = true) :
    Calls Try.prog 14 #[.pointer (some ⟨g, 0, none⟩), .agg #[.int .i64 p.frm, .int .i64 p.dst, .string p.body]] w (NetPost (.int .i64 0) F g (N.send p).1 w) := by
  obtain ⟨fl, c, d⟩ := f
  obtain rfl : fl = true := hl
  obtain ⟨a, b, s⟩ := p
  have hr1 : NetRep (w.alloc (.cells #[.int .i64 a, .int .i64 b, .string s] 31)) F g N := hr.keep (S := fun _ => False) ((Upd.refl _ w).alloc _) (fun _ _ h => h)
  obtain ⟨fv, fblk, qb, vs, qblk, hr⟩ := hr
  simp only [okSend, Bool.and_eq_true] at hb
  obtain ⟨⟨ea, eb⟩, eab⟩ := hb
  have eab' : (a == b) = false := by simpa using eab
  have hgl := hr.lt g hr.inG
  have ht := hok.time
  obtain ⟨fb, foff, fcap, hfbk, hfv, hfc1, hfc2, hfbl, hfcell, _⟩ := hr.fates.form (by rw [hf]; simp)
  subst hfv
  rw [hf] at hfcell
  have hfl : N.fates.length = fs.length + 1 := by rw [hf]; rfl
  rw [hfl] at hfc1
  unfold maxLen at hfc2
  have x0 : w.cell? ⟨fb, foff, none⟩ = some (.bool true) := (hfcell 0 (by simp)).trans rfl
  have x1 : w.cell? ⟨fb, foff + 1, none⟩ = some (.int .i64 c) := (hfcell 1 (by simp; omega)).trans rfl
  have x2 : w.cell? ⟨fb, foff + 2, none⟩ = some (.int .i64 d) := (hfcell 2 (by simp; omega)).trans rfl
  have c0 := hr.c0
  rw [hfl] at c0
  have c1 := hr.c1
  have c2 := hr.c2
  have c3 := hr.c3
  have z0 := hr.fz 0
  have hlow4 := hok.low
  have H := Lib.hid hr; clear hr
  have H1 := Lib.hid hr1; clear hr1
  have Hok := Lib.hid hok; clear hok
  have Hf := Lib.hid hf; clear hf
  have Hfl := Lib.hid hfl; clear hfl
  have Hfc := Lib.hid hfcell; clear hfcell
  have hcut : ∀ V, V = Value.slice (if fcap = 1 then some ⟨fb, foff, none⟩ else some ⟨fb, foff + 3, none⟩) fs.length (fcap - 1) → RowAt w 51 3 V fs.length (flatF fs) fblk := fun V hV => cut_fates H.out Hf.out hV hfc1
  have HC := Lib.hid hcut; clear hcut
  have hN : (N.send ⟨a, b, s⟩).1 = ⟨fs, N.time, N.waiting, N.queues⟩ := by
    rw [send_eq N ⟨a, b, s⟩ (by simp [okSend, ea, eb, eab]) ⟨true, c, d⟩ (by rw [Hf.out]; rfl) 0 rfl (by omega), Hf.out]
    simp only [ins, List.replicate_zero, List.append_nil, List.takeWhile_append_dropWhile, List.tail_cons, Nat.add_zero]
    congr 1
    exact set_self N.queues b.toNat
  rw [hN]
  clear hN
  by_cases hc1 : fcap = 1
  · have hs0 : fs.length = 0 := by omega
    have HS0 := Lib.hid hs0; clear hs0
    have HC1 := Lib.hid hc1
    go_enter Try.func14, Try.ntmps14
    go_wp2_with (go_at_call 30; refine (has_any _ H1.out).mono ?_; rintro e w' ⟨rfl, rfl⟩)
    go_ret
    exact fates_post H.out _ _ _ (HC.out _ (by rw [if_pos HC1.out, HC1.out]))
  · have HC1 := Lib.hid hc1
    go_enter Try.func14, Try.ntmps14
    go_wp2_with (go_at_call 30; refine (has_any _ H1.out).mono ?_; rintro e w' ⟨rfl, rfl⟩)
    go_ret
    exact fates_post H.out _ _ _ (HC.out _ (by rw [if_neg HC1.out]))
end Go.Proofs.Ytfpiiehdmdmoeaa
