/-
  The contracts of slices.Clone at []Fate and of network.New.
-/
import Derived.Test.YtfpiiehdmdmoeaaRecv2
import Derived.Deep.RegionWith
namespace Go.Proofs.Ytfpiiehdmdmoeaa
open Go.RowKit

theorem info51 : (Try.prog.info? 51).map (fun i => (i.zero, i.size, i.bytes)) = some (some (.agg #[.bool false, .int .i64 0, .int .i64 0]), 3, 24) := by kernel_rfl

/-- The call hands back a new row of these cells; nothing old has turned. -/
def RetNew (e : TypeId) (size n : Nat) (xs : List Value) (w : World) (en : Ending) (w' : World) : Prop :=
  ∃ A c blk, en = .returned (.slice A n c) ∧ RowAt w' e size (.slice A n c) n xs blk ∧ Below w.heap.size w w' ∧ ∀ k, blk = some k → w.heap.size ≤ k

theorem clone_nil (w : World) : Calls Try.prog 28 #[.slice none 0 0] w (RetNew 51 3 0 [] w) := by
  have hq := fun (a : Option Addr) (n c : Nat) (w : World) => Lib.run_eql_slice_nil (P := Try.prog) w 22 51 a n c 0 0 Try.underlying22
  go_enter Try.func28, Try.ntmps28
  go_wp2
  go_ret
  exact ⟨none, 0, none, rfl, RowAt.nil _ _ _, Below.refl _ _, (fun _ h => by cases h)⟩

set_option maxHeartbeats 400000 in
theorem clone_some (ad : Addr) (n c : Nat) (xs : List Value) (w : World) (hs : Src w 3 (some ad) n xs) (hn : n ≤ 5864062014805) : Calls Try.prog 28 #[.slice (some ad) n c] w (RetNew 51 3 n xs w) := by
  obtain ⟨i0, hi0, hz0, hz1, hz2⟩ := info_parts info51
  have hs1 : Src (w.alloc (.cells #[] 51)) 3 (some ad) n xs := hs.below (by omega) ((Below.refl _ _).alloc (Nat.le_refl _) _)
  obtain ⟨v', w', blk', hrun, hrow, hu, hb⟩ := run_append_row (P := Try.prog) (w.alloc (.cells #[] 51)) 22 22 51 i0 _ 3 24 Try.underlying22 hi0 hz0 hz1 hz2 rfl (.slice (some ⟨w.heap.size, 0, none⟩) 0 0) 0 [] (some w.heap.size)
    (RowAt.newCap w 51 3 #[] 0 (Nat.zero_le _) rfl) (some ad) n c xs hs1 (by unfold maxLen; omega) (by omega)
  rw [Nat.zero_add] at hrow
  obtain ⟨A', c', rfl, _, _⟩ := hrow.val
  have HRUN := Lib.hid hrun; clear hrun
  have HROW := Lib.hid hrow; clear hrow
  have HB := Lib.hid hb; clear hb
  have HS := Lib.hid hs; clear hs
  have HS1 := Lib.hid hs1; clear hs1
  have hq := fun (a : Option Addr) (n c : Nat) (w : World) => Lib.run_eql_slice_nil (P := Try.prog) w 22 51 a n c 0 0 Try.underlying22
  go_enter Try.func28, Try.ntmps28
  go_wp2_with (at_builtin; refine wpList_append_run rfl _ _ _ _ rfl _ _ rfl rfl HRUN.out ?_)
  go_ret
  refine ⟨A', c', blk', rfl, HROW.out, ?_, fun k hk => ?_⟩
  · exact ((Below.refl _ _).alloc (Nat.le_refl _) _).trans (hu.below (by simp) (fun k hk => by injection hk with hk; omega))
  · rcases HB.out with e | ⟨g', e, hg'⟩
    · rw [e] at hk; injection hk with hk; omega
    · rw [e] at hk; injection hk with hk; simp at hg'; omega

theorem clone_any (A : Option Addr) (n c : Nat) (xs : List Value) (w : World) (hA : A = none → n = 0 ∧ c = 0) (hs : Src w 3 A n xs) (hn : n ≤ 5864062014805) : Calls Try.prog 28 #[.slice A n c] w (RetNew 51 3 n xs w) := by
  cases A with
  | none =>
    obtain ⟨rfl, rfl⟩ := hA rfl
    have : xs = [] := List.eq_nil_of_length_eq_zero (by have := hs.1; omega)
    subst this
    exact clone_nil w
  | some ad => exact clone_some ad n c xs w hs hn

/-- A slice that came in (or was made): it holds these cells; nil only where it is empty. -/
def Arg (w : World) (size : Nat) (v : Value) (n : Nat) (xs : List Value) : Prop := ∃ A c, v = .slice A n c ∧ Src w size A n xs ∧ (A = none → n = 0 ∧ c = 0)

/-- What New leaves. -/
def NewPost (ok : Bool) (houses : Nat) (fs : List Fate) (w : World) (e : Ending) (w' : World) : Prop :=
  Below w.heap.size w w' ∧ ((ok = false ∧ e = .returned (.pointer none)) ∨ (ok = true ∧ ∃ g F, e = .returned (.pointer (some ⟨g, 0, none⟩)) ∧ NetRep w' F g (Net.new houses fs) ∧ ∀ k, F k → w.heap.size ≤ k))

set_option maxHeartbeats 400000 in
theorem new_far (h : Int) (A : Option Addr) (n c : Nat) (w : World) (hh : h < 1 ∨ 12 < h) : Calls Try.prog 12 #[.int .i64 h, .slice A n c] w (RetB (.pointer none) w) := by
  rcases hh with hh | hh
  · go_enter Try.func12, Try.ntmps12
    go_wp2
    go_ret
    exact ⟨rfl, Below.refl _ _⟩
  · have h1 : decide (h < 1) = false := by simp; omega
    have h2 : decide (12 < h) = true := by simp; omega
    go_enter Try.func12, Try.ntmps12
    go_wp2
    go_ret
    exact ⟨rfl, Below.refl _ _⟩

theorem Fate.ok_iff {f : Fate} (h : f.ok = true) (hl : f.lost = false) : 1 ≤ f.copies ∧ f.copies ≤ 9 ∧ 0 ≤ f.delay ∧ f.delay ≤ 100 := by
  unfold Fate.ok at h
  rw [hl] at h
  simp at h
  omega

theorem info64 : (Try.prog.info? 64).map (fun i => (i.zero, i.size, i.bytes)) = some (some (.slice none 0 0), 1, 24) := by kernel_rfl

theorem madeCells_list (z : Value) (h : Nat) : madeCells #[z] h = (List.replicate h z).toArray := by
  apply Array.ext'
  rw [toList_madeCells_one]

theorem new_fin (h : Nat) (fs : List Fate) {w W2 : World} (hb : Below w.heap.size w W2) (qb : Nat) (hq : W2.heap[qb]? = some (.cells (madeCells #[.slice none 0 0] h) 64 (0, 0))) (hql : w.heap.size ≤ qb) (fv : Value) (blk : Option Nat)
    (hrow : RowAt W2 51 3 fv fs.length (flatF fs) blk) (hnew : ∀ k, blk = some k → w.heap.size ≤ k) {g : Nat} (hg : g = W2.heap.size) :
    NewPost true h fs w (.returned (.pointer (some ⟨g, 0, none⟩))) (W2.alloc (.cells #[fv, .int .i64 0, .int .i64 0, .slice (some ⟨qb, 0, none⟩) h h] 58)) := by
  subst hg
  have hu : Upd (fun _ => False) W2 (W2.alloc (.cells #[fv, .int .i64 0, .int .i64 0, .slice (some ⟨qb, 0, none⟩) h h] 58)) := (Upd.refl _ _).alloc _
  refine ⟨hb.alloc hb.size _, .inr ⟨rfl, W2.heap.size, fun k => w.heap.size ≤ k ∧ k < W2.heap.size + 1, rfl, ⟨fv, blk, qb, List.replicate h (.slice none 0 0), fun _ => none, ?_⟩, fun k hk => hk.1⟩⟩
  refine ⟨?_, ?_, by simp [Net.new], hrow.keep hu (fun _ _ h => h), fun i hi => ?_, (fun _ _ _ _ _ h => by cases h), ⟨hb.size, by omega⟩, ⟨hql, by have := lt_of_heap hq; omega⟩, fun b hb2 => ⟨hnew b hb2, by have := hrow.lt hb2; omega⟩, (fun _ _ _ h => by cases h), fun k hk => by simpa using hk.2⟩
  · have := heap_alloc_new W2 (.cells #[fv, .int .i64 0, .int .i64 0, .slice (some ⟨qb, 0, none⟩) h h] 58)
    simpa [Net.new] using this
  · have h1 := hu.keep hq (fun h => h)
    rw [madeCells_list] at h1
    exact h1
  · have hi2 : i < h := by simpa [Net.new] using hi
    have h1 : (Net.new h fs).queues.getD i [] = [] := by simp [Net.new, hi2]
    have h2 : (List.replicate h (Value.slice none 0 0)).getD i undef = .slice none 0 0 := by simp [hi2]
    rw [h1, h2]
    exact RowAt.nil _ _ _

set_option maxRecDepth 100000 in
set_option maxHeartbeats 1000000 in
theorem new_good (h : Nat) (h1 : 1 ≤ h) (h12 : h ≤ 12) (A : Option Addr) (n c : Nat) (fs : List Fate) (w : World) (hA : A = none → n = 0 ∧ c = 0) (hs : Src w 3 A n (flatF fs)) (hn : fs.length = n) (hn5 : n ≤ 5864062014805) (hok : ∀ f ∈ fs, f.ok = true) :
    Calls Try.prog 12 #[.int .i64 h, .slice A n c] w (NewPost true h fs w) := by
  obtain ⟨i0, hi0, hz0, hz1, hz2⟩ := info_parts info64
  have hmk : ∀ W : World, (Instr.makeSlice 56 (.int .i64 (h : Int)) (.int .i64 (h : Int))).run Try.prog W = .ok (.slice (some ⟨W.heap.size, 0, none⟩) h h) (W.alloc (.cells (madeCells #[.slice none 0 0] h) 64)) := fun W => by
    have hmk0 := run_make_rowN (P := Try.prog) 56 64 i0 _ Try.underlying56 hi0 hz0 .i64 .i64 h h (Nat.le_refl _) (by rw [hz2]; omega) (by omega) W
    rw [hz1, Nat.mul_one] at hmk0
    exact hmk0
  have HA := Lib.hid hA; clear hA
  have HS := Lib.hid hs; clear hs
  have HN := Lib.hid hn; clear hn
  have HOK := Lib.hid hok; clear hok
  have d1 : decide ((h : Int) < 1) = false := by simp; omega
  have d2 : decide ((12 : Int) < (h : Int)) = false := by simp; omega
  go_enter Try.func12, Try.ntmps12
  go_wp2
  go_loopw [15] (fun i wr => ∃ k : Nat, k ≤ n ∧ i = .int .i64 k ∧ Below w.heap.size w wr) (fun i _ => n - (intOf i).toNat)
  case atStart => exact ⟨0, Nat.zero_le _, rfl, Below.refl _ _⟩
  case round =>
    obtain ⟨k, hk, rfl, hb⟩ := hrel
    by_cases hlt : k < n
    · obtain ⟨b, off, rfl, hbl, hcell⟩ := HS.out.form (by omega) (by omega)
      obtain ⟨f, hf⟩ : ∃ f, fs[k]? = some f := ⟨fs[k]'(by rw [HN.out]; exact hlt), List.getElem?_eq_getElem _⟩
      have hfok := HOK.out f (List.mem_of_getElem? hf)
      have hcw : ∀ j, j < 3 → wr.cell? ⟨b, off + k * 3 + j, none⟩ = f.cells[j]? := fun j hj => by
        rw [hb.cell (p := ⟨b, off + k * 3 + j, none⟩) hbl, Nat.add_assoc, hcell _ (by omega)]
        exact get_flat _ 3 (fun _ => rfl) fs k j f hf hj
      have hbw : b < wr.heap.size := Nat.lt_of_lt_of_le hbl hb.size
      have hbel : w.heap.size ≤ wr.heap.size := hb.size
      have HB := Lib.hid hb; clear hb
      obtain ⟨fl, fc, fd⟩ := f
      have k0 : wr.cell? ⟨b, off + k * 3, none⟩ = some (.bool fl) := hcw 0 (by omega)
      have k1 : wr.cell? ⟨b, off + k * 3 + 1, none⟩ = some (.int .i64 fc) := hcw 1 (by omega)
      have k2 : wr.cell? ⟨b, off + k * 3 + 2, none⟩ = some (.int .i64 fd) := hcw 2 (by omega)
      clear hcw
      have HC := Lib.hid hcell; clear hcell
      have HF := Lib.hid hf; clear hf
      have hk1 : (k : Int) < (n : Int) := by omega
      cases fl with
      | true =>
        clear hfok
        go_wp2
        go_roundw
        case rel => exact ⟨k + 1, by omega, by go_num, HB.out.alloc hbel _⟩
        case measure => simp [intOf]; omega
      | false =>
        obtain ⟨g1, g2, g3, g4⟩ := Fate.ok_iff hfok rfl
        simp only at g1 g2 g3 g4
        clear hfok
        go_wp2
        go_roundw
        case rel => exact ⟨k + 1, by omega, by go_num, HB.out.alloc hbel _⟩
        case measure => simp [intOf]; omega
    · obtain rfl : n = k := by omega
      have hbel : w.heap.size ≤ wr.heap.size := hb.size
      have HB := Lib.hid hb; clear hb
      go_wp2
      go_region_with (go_at_call 28; refine (clone_any A n c (flatF fs) _ HA.out (HS.out.below (by omega) ?_) (by omega)).mono ?_; (first | exact HB.out.drew | exact (HB.out.drew.alloc hbel _) | exact (HB.out.alloc hbel _).drew); rintro e w' ⟨A', c', blk', rfl, hrow, hbl', hnew⟩)
      · go_wp2
        go_ret
        refine new_fin h fs (W2 := w'.alloc (.cells (madeCells #[.slice none 0 0] h) 64)) ((HB.out.drew.trans (hbl'.mono hbel)).alloc (Nat.le_trans hbel hbl'.size) _) w'.heap.size (heap_alloc_new w' _) (Nat.le_trans hbel hbl'.size) _ blk' ?_ (fun k hk => Nat.le_trans hbel (hnew k hk)) (by simp)
        rw [HN.out]
        exact hrow.keep (S := fun _ => False) ((Upd.refl _ _).alloc _) (fun _ _ h => h)
      · go_wp2
        go_ret
        refine new_fin h fs (W2 := w') ?_ wr.heap.size ?_ hbel _ blk' ?_ (fun k hk => Nat.le_trans (Nat.le_trans hbel (by simp)) (hnew k hk)) rfl
        · exact (HB.out.alloc hbel _).drew.trans (hbl'.mono (Nat.le_trans hbel (by simp)))
        · exact (hbl'.block wr.heap.size (by simp)).trans (heap_alloc_new wr _)
        · rw [HN.out]
          exact hrow

set_option maxRecDepth 100000 in
set_option maxHeartbeats 1000000 in
/-- Where no network is made: a fate is bad. -/
theorem new_fate (h : Nat) (h1 : 1 ≤ h) (h12 : h ≤ 12) (A : Option Addr) (n c : Nat) (fs : List Fate) (w : World) (hs : Src w 3 A n (flatF fs)) (hn : fs.length = n) (hn5 : n ≤ 5864062014805) (j : Nat) (bad : Fate) (hj : fs[j]? = some bad) (hbad : bad.ok = false) (hok : ∀ k f, k < j → fs[k]? = some f → f.ok = true) :
    Calls Try.prog 12 #[.int .i64 h, .slice A n c] w (RetB (.pointer none) w) := by
  have hjn : j < n := by rw [← hn]; exact (List.getElem?_eq_some_iff.1 hj).1
  have HS := Lib.hid hs; clear hs
  have HN := Lib.hid hn; clear hn
  have HOK := Lib.hid hok; clear hok
  have HJ := Lib.hid hj; clear hj
  have d1 : decide ((h : Int) < 1) = false := by simp; omega
  have d2 : decide ((12 : Int) < (h : Int)) = false := by simp; omega
  go_enter Try.func12, Try.ntmps12
  go_wp2
  go_loopw [15] (fun i wr => ∃ k : Nat, k ≤ j ∧ i = .int .i64 k ∧ Below w.heap.size w wr) (fun i _ => n - (intOf i).toNat)
  case atStart => exact ⟨0, Nat.zero_le _, rfl, Below.refl _ _⟩
  case round =>
    obtain ⟨k, hk, rfl, hb⟩ := hrel
    have hlt : k < n := by omega
    obtain ⟨b, off, rfl, hbl, hcell⟩ := HS.out.form (by omega) (by omega)
    obtain ⟨f, hf⟩ : ∃ f, fs[k]? = some f := ⟨fs[k]'(by rw [HN.out]; exact hlt), List.getElem?_eq_getElem _⟩
    have hcw : ∀ j, j < 3 → wr.cell? ⟨b, off + k * 3 + j, none⟩ = f.cells[j]? := fun j hj => by
      rw [hb.cell (p := ⟨b, off + k * 3 + j, none⟩) hbl, Nat.add_assoc, hcell _ (by omega)]
      exact get_flat _ 3 (fun _ => rfl) fs k j f hf hj
    have hbw : b < wr.heap.size := Nat.lt_of_lt_of_le hbl hb.size
    have hbel : w.heap.size ≤ wr.heap.size := hb.size
    have HB := Lib.hid hb; clear hb
    obtain ⟨fl, fc, fd⟩ := f
    have k0 : wr.cell? ⟨b, off + k * 3, none⟩ = some (.bool fl) := hcw 0 (by omega)
    have k1 : wr.cell? ⟨b, off + k * 3 + 1, none⟩ = some (.int .i64 fc) := hcw 1 (by omega)
    have k2 : wr.cell? ⟨b, off + k * 3 + 2, none⟩ = some (.int .i64 fd) := hcw 2 (by omega)
    clear hcw
    have HC := Lib.hid hcell; clear hcell
    have hk1 : (k : Int) < (n : Int) := by omega
    by_cases hkj : k < j
    · have hfok := HOK.out k _ hkj hf
      have HF := Lib.hid hf; clear hf
      cases fl with
      | true =>
        clear hfok
        go_wp2
        go_roundw
        case rel => exact ⟨k + 1, by omega, by go_num, HB.out.alloc hbel _⟩
        case measure => simp [intOf]; omega
      | false =>
        obtain ⟨g1, g2, g3, g4⟩ := Fate.ok_iff hfok rfl
        simp only at g1 g2 g3 g4
        clear hfok
        go_wp2
        go_roundw
        case rel => exact ⟨k + 1, by omega, by go_num, HB.out.alloc hbel _⟩
        case measure => simp [intOf]; omega
    · obtain rfl : j = k := by omega
      have e := hf.symm.trans HJ.out
      injection e with e
      subst e
      have HF := Lib.hid hf; clear hf
      simp [Fate.ok] at hbad
      obtain ⟨rfl, hbad⟩ := hbad
      by_cases q1 : fc < 1
      · clear hbad
        go_wp2
        go_ret
        exact ⟨rfl, HB.out.alloc hbel _⟩
      · have q1' : 1 ≤ fc := by omega
        by_cases q2 : 9 < fc
        · clear hbad
          go_wp2
          go_ret
          exact ⟨rfl, HB.out.alloc hbel _⟩
        · have q2' : fc ≤ 9 := by omega
          by_cases q3 : fd < 0
          · clear hbad
            go_wp2
            go_ret
            exact ⟨rfl, HB.out.alloc hbel _⟩
          · have q3' : 0 ≤ fd := by omega
            have q4 : 100 < fd := hbad q1' q2' q3'
            clear hbad
            have q5 : decide (100 < fd) = true := by simpa using q4
            go_wp2
            go_ret
            exact ⟨rfl, HB.out.alloc hbel _⟩

def okFates (fs : List Fate) : Bool := fs.all Fate.ok
def okNew (h : Int) (fs : List Fate) : Bool := decide (1 ≤ h) && decide (h ≤ 12) && okFates fs

theorem first_bad : ∀ (fs : List Fate), okFates fs = false → ∃ (j : Nat) (bad : Fate), fs[j]? = some bad ∧ bad.ok = false ∧ ∀ k f, k < j → fs[k]? = some f → f.ok = true
  | [], h => by simp [okFates] at h
  | a :: fs, h => by
    cases ha : a.ok with
    | false => exact ⟨0, a, rfl, ha, fun k f hk => by omega⟩
    | true =>
      have h2 : okFates fs = false := by simpa [okFates, ha] using h
      obtain ⟨j, bad, h3, h4, h5⟩ := first_bad fs h2
      refine ⟨j + 1, bad, by simpa using h3, h4, fun k f hk hf => ?_⟩
      cases k with
      | zero => simp at hf; subst hf; exact ha
      | succ k => exact h5 k f (by omega) (by simpa using hf)

theorem new_any (h : Int) (v : Value) (fs : List Fate) (w : World) (ha : Arg w 3 v fs.length (flatF fs)) (hn5 : fs.length ≤ 5864062014805) : Calls Try.prog 12 #[.int .i64 h, v] w (NewPost (okNew h fs) h.toNat fs w) := by
  obtain ⟨A, c, rfl, hs, hA⟩ := ha
  by_cases h1 : h < 1 ∨ 12 < h
  · have e : okNew h fs = false := by simp [okNew]; omega
    rw [e]
    exact (new_far h A _ c w h1).mono fun e w' hp => ⟨hp.2, .inl ⟨rfl, hp.1⟩⟩
  · obtain ⟨h, rfl⟩ := Int.eq_ofNat_of_zero_le (show 0 ≤ h by omega)
    have e : okNew h fs = okFates fs := by
      have : decide ((1 : Int) ≤ h) = true := by simp; omega
      have : decide ((h : Int) ≤ 12) = true := by simp; omega
      simp [okNew, *]
    rw [e]
    cases eo : okFates fs with
    | true => exact new_good h (by omega) (by omega) A _ c fs w hA hs rfl hn5 (by simpa [okFates] using eo)
    | false =>
      obtain ⟨j, bad, h3, h4, h5⟩ := first_bad fs eo
      exact (new_fate h (by omega) (by omega) A _ c fs w hs rfl hn5 j bad h3 h4 h5).mono fun e w' hp => ⟨hp.2, .inl ⟨rfl, hp.1⟩⟩
end Go.Proofs.Ytfpiiehdmdmoeaa
