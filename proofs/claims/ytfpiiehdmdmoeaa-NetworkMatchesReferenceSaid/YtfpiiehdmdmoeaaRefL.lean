/-
  The contract of the reference's Send, whole.
-/
import Derived.Test.YtfpiiehdmdmoeaaRefH
namespace Go.Proofs.Ytfpiiehdmdmoeaa
open Go.RowKit

set_option maxRecDepth 100000 in
set_option maxHeartbeats 1000000 in
theorem rsend_full {w : World} {F : Nat → Prop} {g : Nat} {R : Rf} (hr : RefRep w F g R) (hok : R.Ok) (p : Pkt) (hb : okSend R.houses p = true) (hfull : 4000 < R.copies.length + (R.fates.headD one).many) :
    Calls Try.prog 15 #[.pointer (some ⟨g, 0, none⟩), .agg #[.int .i64 p.frm, .int .i64 p.dst, .string p.body]] w (RefPost (.int .i64 3) F g R w) := by
  obtain ⟨a, b, s⟩ := p
  have hr1 : RefRep (w.alloc (.cells #[.int .i64 a, .int .i64 b, .string s] 31)) F g R := hr.keep (S := fun _ => False) ((Upd.refl _ w).alloc _) (fun _ _ h => h)
  have HRR := Lib.hid hr
  have hlow := hok.low
  have hfok := headD_ok hok.fates
  obtain ⟨fv, fblk, cv, cblk, hr⟩ := hr
  simp only [okSend, Bool.and_eq_true] at hb
  obtain ⟨⟨ea, eb⟩, eab⟩ := hb
  have eab' : (a == b) = false := by simpa using eab
  have hgl := hr.lt g hr.inG
  obtain ⟨cA, ccap, rfl, _, _⟩ := hr.copies.val
  have c3 := hr.c3
  have c1 := hr.c1
  have hfr := hr.fates
  obtain ⟨rh, rf, T, cs⟩ := R
  simp only at *
  have H1 := Lib.hid hr1; clear hr1
  cases rf with
  | nil =>
    obtain ⟨fA, fcap, rfl, _, _⟩ := hfr.val
    simp only [List.length_nil, List.headD_nil] at c1 hfull hfr
    have hM : one.many = 1 := rfl
    rw [hM] at hfull
    have hd : decide ((4000 : Int) < (cs.length : Int) + 1) = true := by simp; omega
    have hd2 : (4000 : Int) < (cs.length : Int) + 1 := by omega
    clear hr hok hfok hfr hM
    go_enter Try.func15, Try.ntmps15
    go_wp2_with (go_at_call 32; refine (rhouse_any _ H1.out).mono ?_; rintro e w' ⟨rfl, rfl⟩)
    go_ret
    exact refpost_same HRR.out (((Below.refl _ _).alloc (Nat.le_refl _) _).alloc (by simp) _)
  | cons f fs =>
    simp only [List.headD_cons] at hfull hfok
    obtain ⟨fb, foff, fcap, hfbk, hfv, _, _, hfbl, hfcell, _⟩ := hfr.form (by simp)
    subst hfv
    obtain ⟨fl, fc, fd⟩ := f
    cases fl with
    | true =>
      have : Fate.many ⟨true, fc, fd⟩ = 0 := rfl
      omega
    | false =>
      obtain ⟨g1, g2, g3, g4⟩ := Fate.ok_iff hfok rfl
      simp only at g1 g2 g3 g4
      have hM : Fate.many ⟨false, fc, fd⟩ = fc.toNat := rfl
      rw [hM] at hfull
      have x0 : w.cell? ⟨fb, foff, none⟩ = some (.bool false) := (hfcell 0 (by simp)).trans rfl
      have x1 : w.cell? ⟨fb, foff + 1, none⟩ = some (.int .i64 fc) := (hfcell 1 (by simp; omega)).trans rfl
      have x2 : w.cell? ⟨fb, foff + 2, none⟩ = some (.int .i64 fd) := (hfcell 2 (by simp; omega)).trans rfl
      simp only [List.length_cons] at c1
      have hd2 : (4000 : Int) < (cs.length : Int) + fc := by omega
      have hd : decide ((4000 : Int) < (cs.length : Int) + fc) = true := by simp; omega
      clear hr hok hfok hfr hM hfcell hfbk
      go_enter Try.func15, Try.ntmps15
      go_wp2_with (go_at_call 32; refine (rhouse_any _ H1.out).mono ?_; rintro e w' ⟨rfl, rfl⟩)
      go_ret
      exact refpost_same HRR.out (((Below.refl _ _).alloc (Nat.le_refl _) _).alloc (by simp) _)

theorem rsend_ref {w : World} {F : Nat → Prop} {g : Nat} {R : Rf} (hr : RefRep w F g R) (hok : R.Ok) (p : Pkt) :
    Calls Try.prog 15 #[.pointer (some ⟨g, 0, none⟩), .agg #[.int .i64 p.frm, .int .i64 p.dst, .string p.body]] w (RefPost (.int .i64 (R.send p).2) F g (R.send p).1 w) := by
  cases hb : okSend R.houses p with
  | false =>
    have e : R.send p = (R, 1) := by unfold Rf.send; rw [if_pos hb]
    rw [e]
    exact rsend_bad hr p hb
  | true =>
    by_cases hl : 4000 < R.copies.length + (R.fates.headD one).many
    · have e : R.send p = (R, 3) := by unfold Rf.send; rw [if_neg (by simp [hb])]; simp only; rw [if_pos hl]
      rw [e]
      exact rsend_full hr hok p hb hl
    · have e := rsend_err R p hb _ rfl _ rfl
      rw [if_neg hl] at e
      rw [e]
      exact rsend_good hr hok p hb _ rfl (by omega)
end Go.Proofs.Ytfpiiehdmdmoeaa
