/-
  The contract of estoppelref46.New.
-/
import Derived.Test.YtfpiiehdmdmoeaaRefE
namespace Go.Proofs.Ytfpiiehdmdmoeaa
open Go.RowKit

/-- What the reference's New leaves. -/
def RNewPost (ok : Bool) (houses : Nat) (fs : List Fate) (w : World) (e : Ending) (w' : World) : Prop :=
  Below w.heap.size w w' ∧ ((ok = false ∧ e = .returned (.pointer none)) ∨ (ok = true ∧ ∃ g F, e = .returned (.pointer (some ⟨g, 0, none⟩)) ∧ RefRep w' F g (Rf.new houses fs) ∧ ∀ k, F k → w.heap.size ≤ k))

set_option maxHeartbeats 400000 in
theorem rnew_far (h : Int) (A : Option Addr) (n c : Nat) (w : World) (hh : h < 1 ∨ 12 < h) : Calls Try.prog 13 #[.int .i64 h, .slice A n c] w (RetB (.pointer none) w) := by
  rcases hh with hh | hh
  · go_enter Try.func13, Try.ntmps13
    go_wp2
    go_ret
    exact ⟨rfl, Below.refl _ _⟩
  · have h1 : decide (h < 1) = false := by simp; omega
    have h2 : decide (12 < h) = true := by simp; omega
    go_enter Try.func13, Try.ntmps13
    go_wp2
    go_ret
    exact ⟨rfl, Below.refl _ _⟩

theorem rnew_fin (h : Nat) (fs : List Fate) {w W2 : World} (hb : Below w.heap.size w W2) (fv : Value) (blk : Option Nat)
    (hrow : RowAt W2 51 3 fv fs.length (flatF fs) blk) (hnew : ∀ k, blk = some k → w.heap.size ≤ k) {g : Nat} (hg : g = W2.heap.size) :
    RNewPost true h fs w (.returned (.pointer (some ⟨g, 0, none⟩))) (W2.alloc (.cells #[.int .i64 h, fv, .int .i64 0, .slice none 0 0] 62)) := by
  subst hg
  have hu : Upd (fun _ => False) W2 (W2.alloc (.cells #[.int .i64 h, fv, .int .i64 0, .slice none 0 0] 62)) := (Upd.refl _ _).alloc _
  refine ⟨hb.alloc hb.size _, .inr ⟨rfl, W2.heap.size, fun k => w.heap.size ≤ k ∧ k < W2.heap.size + 1, rfl, ⟨fv, blk, .slice none 0 0, none, ?_⟩, fun k hk => hk.1⟩⟩
  refine ⟨?_, hrow.keep hu (fun _ _ h => h), RowAt.nil _ _ _, ⟨hb.size, by omega⟩, fun b hb2 => ⟨hnew b hb2, by have := hrow.lt hb2; omega⟩, (fun _ h => by cases h), fun k hk => by simpa using hk.2⟩
  have := heap_alloc_new W2 (.cells #[.int .i64 h, fv, .int .i64 0, .slice none 0 0] 62)
  simpa [Rf.new] using this

theorem okF_snoc {fs : List Fate} {k : Nat} {f : Fate} (hf : fs[k]? = some f) (h : okFates (fs.take k) = true) (hok : f.ok = true) : okFates (fs.take (k + 1)) = true := by
  obtain ⟨hk, rfl⟩ := List.getElem?_eq_some_iff.1 hf
  unfold okFates at h ⊢
  rw [List.take_succ_eq_append_getElem hk, List.all_append, h]
  simpa using hok
theorem okF_bad {fs : List Fate} {k : Nat} {f : Fate} (hf : fs[k]? = some f) (hok : f.ok = false) : okFates fs = false := by
  cases e : okFates fs with
  | false => rfl
  | true =>
    unfold okFates at e
    rw [List.all_eq_true.1 e f (List.mem_of_getElem? hf)] at hok
    cases hok

set_option maxRecDepth 100000 in
set_option maxHeartbeats 1000000 in
theorem rnew_near (h : Nat) (h1 : 1 ≤ h) (h12 : h ≤ 12) (A : Option Addr) (n c : Nat) (fs : List Fate) (w : World) (hs : Src w 3 A n (flatF fs)) (hn : fs.length = n) (hn5 : n ≤ 5864062014805) :
    Calls Try.prog 13 #[.int .i64 h, .slice A n c] w (RNewPost (okFates fs) h fs w) := by
  generalize hE : okFates fs = E
  have HE := Lib.hid hE; clear hE
  have HS := Lib.hid hs; clear hs
  have HN := Lib.hid hn; clear hn
  have d1 : decide ((h : Int) < 1) = false := by simp; omega
  have d2 : decide ((12 : Int) < (h : Int)) = false := by simp; omega
  go_enter Try.func13, Try.ntmps13
  go_wp2
  go_loopw [5] (fun i wr => ∃ k : Nat, k ≤ n ∧ i = .int .i64 k ∧ Below w.heap.size w wr ∧ Hid (okFates (fs.take k) = true)) (fun i _ => n - (intOf i).toNat)
  case atStart => exact ⟨0, Nat.zero_le _, rfl, Below.refl _ _, rfl⟩
  case round =>
    obtain ⟨k, hk, rfl, hb, hpre⟩ := hrel
    by_cases hlt : k < n
    · obtain ⟨b, off, rfl, hbl, hcell⟩ := HS.out.form (by omega) (by omega)
      obtain ⟨f, hf⟩ : ∃ f, fs[k]? = some f := ⟨fs[k]'(by rw [HN.out]; exact hlt), List.getElem?_eq_getElem _⟩
      have hcw : ∀ j, j < 3 → wr.cell? ⟨b, off + k * 3 + j, none⟩ = f.cells[j]? := fun j hj => by
        rw [hb.cell (p := ⟨b, off + k * 3 + j, none⟩) hbl, Nat.add_assoc, hcell _ (by omega)]
        exact get_flat _ 3 (fun _ => rfl) fs k j f hf hj
      have hbw : b < wr.heap.size := Nat.lt_of_lt_of_le hbl hb.size
      have hbel : w.heap.size ≤ wr.heap.size := hb.size
      have HB := Lib.hid hb; clear hb
      obtain ⟨fl, fc, fd⟩ := f
      have k0 : wr.cell? ⟨b, off + k * 3, none⟩ = some (.bool fl) := hcw 0 (by omega)
      have k1 : wr.cell? ⟨b, off + k * 3 + 1, none⟩ = some (.int .i64 fc) := hcw 1 (by omega)
      have k2 : wr.cell? ⟨b, off + k * 3 + 2, none⟩ = some (.int .i64 fd) := hcw 2 (by omega)
      clear hcw
      have HC := Lib.hid hcell; clear hcell
      have HF := Lib.hid hf; clear hf
      have hk1 : (k : Int) < (n : Int) := by omega
      have hrg := right_any ⟨fl, fc, fd⟩ wr
      generalize hok : Fate.ok ⟨fl, fc, fd⟩ = ok at hrg
      have HOK := Lib.hid hok; clear hok
      have HRG := Lib.hid hrg; clear hrg
      cases ok with
      | true =>
        go_wp2_with (go_at_call 29; refine HRG.out.mono ?_; rintro e w1 ⟨rfl, hb1⟩; have HB1 := Lib.hid hb1; clear hb1)
        go_roundw
        case rel => exact ⟨k + 1, by omega, by go_num, HB.out.trans (HB1.out.mono hbel), okF_snoc HF.out hpre.out HOK.out⟩
        case measure => simp [intOf]; omega
      | false =>
        go_wp2_with (go_at_call 29; refine HRG.out.mono ?_; rintro e w1 ⟨rfl, hb1⟩; have HB1 := Lib.hid hb1; clear hb1)
        go_ret
        rw [← HE.out, okF_bad HF.out HOK.out]
        exact ⟨HB.out.trans (HB1.out.mono hbel), .inl ⟨rfl, rfl⟩⟩
    · obtain rfl : n = k := by omega
      have hbel : w.heap.size ≤ wr.heap.size := hb.size
      have e := hpre.out
      rw [List.take_of_length_le (by rw [HN.out]; exact Nat.le_refl _), HE.out] at e
      subst e
      obtain ⟨i0, hi0, hz0, hz1, hz2⟩ := info_parts info51
      have hb2 : Below w.heap.size w (wr.alloc (.cells #[] 51)) := hb.alloc hbel _
      obtain ⟨v', w', blk', hrun, hrow, hu, hbk⟩ := run_append_row (P := Try.prog) (wr.alloc (.cells #[] 51)) 22 22 51 i0 _ 3 24 Try.underlying22 hi0 hz0 hz1 hz2 rfl (.slice (some ⟨wr.heap.size, 0, none⟩) 0 0) 0 [] (some wr.heap.size)
        (RowAt.newCap wr 51 3 #[] 0 (Nat.zero_le _) rfl) A n c (flatF fs) (HS.out.below (by omega) hb2) (by unfold maxLen; omega) (by omega)
      rw [Nat.zero_add] at hrow
      obtain ⟨A', c', rfl, _, _⟩ := hrow.val
      have HRUN := Lib.hid hrun; clear hrun
      have HROW := Lib.hid hrow; clear hrow
      have HB := Lib.hid hb; clear hb
      have HB2 := Lib.hid hb2; clear hb2
      have HBK := Lib.hid hbk; clear hbk
      have HU := Lib.hid hu; clear hu
      clear hi0 hz0 hz1 hz2
      go_wp2_with (at_builtin; refine wpList_append_run rfl _ _ _ _ rfl _ _ rfl rfl HRUN.out ?_)
      go_ret
      refine rnew_fin h fs (W2 := w') (HB2.out.trans (HU.out.below (Nat.le_trans hbel (by simp)) (fun k hk => by injection hk with hk; omega))) _ blk' ?_ (fun k hk => ?_) rfl
      · rw [HN.out]
        exact HROW.out
      · rcases HBK.out with e | ⟨g', e, hg'⟩
        · rw [e] at hk; injection hk with hk; omega
        · rw [e] at hk; injection hk with hk; simp at hg'; omega

theorem rnew_any (h : Int) (v : Value) (fs : List Fate) (w : World) (ha : Arg w 3 v fs.length (flatF fs)) (hn5 : fs.length ≤ 5864062014805) : Calls Try.prog 13 #[.int .i64 h, v] w (RNewPost (okNew h fs) h.toNat fs w) := by
  obtain ⟨A, c, rfl, hs, hA⟩ := ha
  by_cases h1 : h < 1 ∨ 12 < h
  · have e : okNew h fs = false := by simp [okNew]; omega
    rw [e]
    exact (rnew_far h A _ c w h1).mono fun e w' hp => ⟨hp.2, .inl ⟨rfl, hp.1⟩⟩
  · obtain ⟨h, rfl⟩ := Int.eq_ofNat_of_zero_le (show 0 ≤ h by omega)
    have e : okNew h fs = okFates fs := by
      have : decide ((1 : Int) ≤ h) = true := by simp; omega
      have : decide ((h : Int) ≤ 12) = true := by simp; omega
      simp [okNew, *]
    rw [e]
    exact rnew_near h (by omega) (by omega) A _ c fs w hs rfl hn5
end Go.Proofs.Ytfpiiehdmdmoeaa
