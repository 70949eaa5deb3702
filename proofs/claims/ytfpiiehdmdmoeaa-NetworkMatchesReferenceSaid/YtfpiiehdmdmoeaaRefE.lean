/-
  How a reference network lies in memory; the contracts of its small functions.
-/
import Derived.Test.YtfpiiehdmdmoeaaRefD
import Derived.Test.YtfpiiehdmdmoeaaNew
namespace Go.Proofs.Ytfpiiehdmdmoeaa
open Go.RowKit

/-- The reference network R lies behind block g; F are its blocks. -/
structure RefAt (w : World) (F : Nat → Prop) (g : Nat) (R : Rf) (fv : Value) (fblk : Option Nat) (cv : Value) (cblk : Option Nat) : Prop where
  head : w.heap[g]? = some (.cells #[.int .i64 R.houses, fv, .int .i64 R.time, cv] 62 (0, 0))
  fates : RowAt w 51 3 fv R.fates.length (flatF R.fates) fblk
  copies : RowAt w 70 4 cv R.copies.length (flatL R.copies) cblk
  inG : F g
  inF : ∀ b, fblk = some b → F b
  inC : ∀ b, cblk = some b → F b
  lt : ∀ k, F k → k < w.heap.size

def RefRep (w : World) (F : Nat → Prop) (g : Nat) (R : Rf) : Prop := ∃ fv fblk cv cblk, RefAt w F g R fv fblk cv cblk

theorem RefAt.keep {w w' : World} {F S : Nat → Prop} {g : Nat} {R : Rf} {fv : Value} {fblk : Option Nat} {cv : Value} {cblk : Option Nat} (h : RefAt w F g R fv fblk cv cblk) (hu : Upd S w w') (hd : ∀ k, F k → ¬ S k) : RefAt w' F g R fv fblk cv cblk :=
  ⟨hu.keep h.head (hd _ h.inG), h.fates.keep hu (fun k hk => hd _ (h.inF k hk)), h.copies.keep hu (fun k hk => hd _ (h.inC k hk)), h.inG, h.inF, h.inC, fun k hk => Nat.lt_of_lt_of_le (h.lt k hk) hu.size⟩
theorem RefRep.keep {w w' : World} {F S : Nat → Prop} {g : Nat} {R : Rf} (h : RefRep w F g R) (hu : Upd S w w') (hd : ∀ k, F k → ¬ S k) : RefRep w' F g R := by
  obtain ⟨fv, fblk, cv, cblk, h⟩ := h
  exact ⟨fv, fblk, cv, cblk, h.keep hu hd⟩
theorem RefRep.lt {w : World} {F : Nat → Prop} {g : Nat} {R : Rf} (h : RefRep w F g R) : ∀ k, F k → k < w.heap.size := by
  obtain ⟨fv, fblk, cv, cblk, h⟩ := h
  exact h.lt
theorem RefAt.more {w : World} {F F' : Nat → Prop} {g : Nat} {R : Rf} {fv : Value} {fblk : Option Nat} {cv : Value} {cblk : Option Nat} (h : RefAt w F g R fv fblk cv cblk) (hF : ∀ k, F k → F' k) (hl : ∀ k, F' k → k < w.heap.size) : RefAt w F' g R fv fblk cv cblk :=
  ⟨h.head, h.fates, h.copies, hF _ h.inG, fun b hb => hF _ (h.inF b hb), fun b hb => hF _ (h.inC b hb), hl⟩

section
variable {w : World} {F : Nat → Prop} {g : Nat} {R : Rf} {fv : Value} {fblk : Option Nat} {cv : Value} {cblk : Option Nat} (h : RefAt w F g R fv fblk cv cblk)
include h
theorem RefAt.c0 : w.cell? ⟨g, 0, none⟩ = some (.int .i64 R.houses) := by simp [World.cell?, h.head]
theorem RefAt.c1 : w.cell? ⟨g, 1, none⟩ = some fv := by simp [World.cell?, h.head]
theorem RefAt.c2 : w.cell? ⟨g, 2, none⟩ = some (.int .i64 R.time) := by simp [World.cell?, h.head]
theorem RefAt.c3 : w.cell? ⟨g, 3, none⟩ = some cv := by simp [World.cell?, h.head]
theorem RefAt.fz (i : Nat) : w.frozen? ⟨g, i, none⟩ = false := by simp [World.frozen?, h.head]
theorem RefAt.nf : fblk ≠ some g := h.fates.ne_type h.head (by decide)
theorem RefAt.nc : cblk ≠ some g := h.copies.ne_type h.head (by decide)
theorem RefAt.nfc {k : Nat} (hk : fblk = some k) : cblk ≠ some k := h.fates.ne_row h.copies (by decide) hk
/-- The head and the copies written anew. -/
theorem RefAt.setG {w' : World} {F' : Nat → Prop} {R' : Rf} {fv' cv' : Value} {cblk' : Option Nat} (hh : w'.heap[g]? = some (.cells #[.int .i64 R'.houses, fv', .int .i64 R'.time, cv'] 62 (0, 0)))
    (hf : RowAt w' 51 3 fv' R'.fates.length (flatF R'.fates) fblk) (hc : RowAt w' 70 4 cv' R'.copies.length (flatL R'.copies) cblk')
    (hF : ∀ k, F k → F' k) (hF2 : ∀ k, cblk' = some k → F' k) (hF3 : ∀ k, F' k → k < w'.heap.size) : RefAt w' F' g R' fv' fblk cv' cblk' :=
  ⟨hh, hf, hc, hF _ h.inG, fun b hb => hF _ (h.inF b hb), hF2, hF3⟩
end

/-- Behind the call the reference network is R'; of the old blocks only its own may have turned; its blocks are the old ones and new ones. -/
def RefPost (v : Value) (F : Nat → Prop) (g : Nat) (R' : Rf) (w : World) (e : Ending) (w' : World) : Prop :=
  e = .returned v ∧ RefRep w' (fun k => F k ∨ (w.heap.size ≤ k ∧ k < w'.heap.size)) g R' ∧ Upd F w w'

theorem refpost_same {v : Value} {F : Nat → Prop} {g : Nat} {R : Rf} {w w' : World} (hr : RefRep w F g R) (hb : Below w.heap.size w w') : RefPost v F g R w (.returned v) w' := by
  have hu : Upd (fun k => w.heap.size ≤ k) w w' := Upd.of_below hb
  obtain ⟨fv, fblk, cv, cblk, hr⟩ := hr
  refine ⟨rfl, ⟨fv, fblk, cv, cblk, (hr.keep hu (fun k hk => by have := hr.lt k hk; omega)).more (fun k hk => .inl hk) ?_⟩, hu.mono (fun i hi h => by omega)⟩
  rintro k (hk | hk)
  · exact Nat.lt_of_lt_of_le (hr.lt k hk) hb.size
  · exact hk.2

set_option maxHeartbeats 400000 in
theorem rhouse_any {w : World} {F : Nat → Prop} {g : Nat} {R : Rf} (h : Int) (hr : RefRep w F g R) : Calls Try.prog 32 #[.pointer (some ⟨g, 0, none⟩), .int .i64 h] w (Ret (.bool (okHouse R.houses h)) w) := by
  obtain ⟨fv, fblk, cv, cblk, hr⟩ := hr
  have c0 := hr.c0
  have H := Lib.hid hr; clear hr
  cases e : okHouse R.houses h with
  | true =>
    obtain ⟨h0, h1⟩ := okHouse_yes e
    clear e
    go_enter Try.func32, Try.ntmps32
    go_wp2
    go_ret
    exact ⟨rfl, rfl⟩
  | false =>
    rcases okHouse_no e with hn | hn
    · have hd : decide (0 ≤ h) = false := by simpa using hn
      clear e
      go_enter Try.func32, Try.ntmps32
      go_wp2
      go_ret
      exact ⟨rfl, rfl⟩
    · have h0 : 0 ≤ h := by omega
      have hd2 : decide (h < (R.houses : Int)) = false := by simpa using hn
      clear e
      go_enter Try.func32, Try.ntmps32
      go_wp2
      go_ret
      exact ⟨rfl, rfl⟩
theorem rhouse_nil (h : Int) (w : World) : Calls Try.prog 32 #[.pointer none, .int .i64 h] w (Ret (.bool false) w) := by
  go_enter Try.func32, Try.ntmps32
  go_wp2
  go_ret
  exact ⟨rfl, rfl⟩

theorem rstep_nil (w : World) : Calls Try.prog 20 #[.pointer none] w (Ret (.tuple #[]) w) := by
  go_enter Try.func20, Try.ntmps20
  go_wp2
  go_end0
  exact ⟨rfl, rfl⟩

set_option maxHeartbeats 400000 in
theorem rstep_ref {w : World} {F : Nat → Prop} {g : Nat} {R : Rf} (hr : RefRep w F g R) (ht : R.time ≤ 1000000) :
    Calls Try.prog 20 #[.pointer (some ⟨g, 0, none⟩)] w (RefPost (.tuple #[]) F g R.step w) := by
  obtain ⟨fv, fblk, cv, cblk, hr⟩ := hr
  have c2 := hr.c2
  have f2 := hr.fz 2
  have H := Lib.hid hr; clear hr
  go_enter Try.func20, Try.ntmps20
  go_wp2
  go_end0
  have hr := H.out
  have hu : Upd (fun k => k = g) w (w.setCell ⟨g, 2, none⟩ (.int .i64 (R.time + 1))) := (Upd.refl (fun k => k = g) w).setCell (.inl rfl) _
  refine ⟨rfl, ⟨fv, fblk, cv, cblk, hr.setG (R' := R.step) ((heap_setCell_same hr.head _).trans (by simp [Rf.step])) (hr.fates.keep hu (fun k hk e => hr.nf (by rw [hk, e]))) (hr.copies.keep hu (fun k hk e => hr.nc (by rw [hk, e]))) (fun k hk => .inl hk) (fun k hk => .inl (hr.inC k hk)) (fun k hk => ?_)⟩, hu.mono (fun i _ h => by rw [h]; exact hr.inG)⟩
  rcases hk with hk | hk
  · exact Nat.lt_of_lt_of_le (hr.lt k hk) hu.size
  · exact hk.2

theorem rwaiting_nil (w : World) : Calls Try.prog 22 #[.pointer none] w (Ret (.int .i64 0) w) := by
  go_enter Try.func22, Try.ntmps22
  go_wp2
  go_ret
  exact ⟨rfl, rfl⟩

set_option maxHeartbeats 400000 in
theorem rwaiting_ref {w : World} {F : Nat → Prop} {g : Nat} {R : Rf} (hr : RefRep w F g R) : Calls Try.prog 22 #[.pointer (some ⟨g, 0, none⟩)] w (Ret (.int .i64 R.copies.length) w) := by
  obtain ⟨fv, fblk, cv, cblk, hr⟩ := hr
  have c3 := hr.c3
  obtain ⟨A, c, rfl, _, _⟩ := hr.copies.val
  have H := Lib.hid hr; clear hr
  go_enter Try.func22, Try.ntmps22
  go_wp2
  go_ret
  exact ⟨rfl, rfl⟩

set_option maxHeartbeats 400000 in
theorem right_any (f : Fate) (w : World) : Calls Try.prog 29 #[.agg #[.bool f.lost, .int .i64 f.copies, .int .i64 f.delay]] w (RetB (.bool f.ok) w) := by
  obtain ⟨fl, fc, fd⟩ := f
  simp only
  generalize hE : Fate.ok ⟨fl, fc, fd⟩ = E
  cases fl with
  | true =>
    obtain rfl : E = true := by rw [← hE]; rfl
    clear hE
    go_enter Try.func29, Try.ntmps29
    go_wp2
    go_ret
    exact ⟨rfl, (Below.refl _ _).alloc (Nat.le_refl _) _⟩
  | false =>
    by_cases q1 : 1 ≤ fc
    · by_cases q2 : fc ≤ 9
      · by_cases q3 : 0 ≤ fd
        · by_cases q4 : fd ≤ 100
          · obtain rfl : E = true := by rw [← hE]; simp [Fate.ok, q1, q2, q3, q4]
            clear hE
            go_enter Try.func29, Try.ntmps29
            go_wp2
            go_ret
            exact ⟨rfl, (Below.refl _ _).alloc (Nat.le_refl _) _⟩
          · obtain rfl : E = false := by rw [← hE]; simp [Fate.ok, q4]
            have d : decide (fd ≤ 100) = false := by simpa using q4
            clear hE
            go_enter Try.func29, Try.ntmps29
            go_wp2
            go_ret
            exact ⟨rfl, (Below.refl _ _).alloc (Nat.le_refl _) _⟩
        · obtain rfl : E = false := by rw [← hE]; simp [Fate.ok, q3]
          have d : decide (0 ≤ fd) = false := by simpa using q3
          clear hE
          go_enter Try.func29, Try.ntmps29
          go_wp2
          go_ret
          exact ⟨rfl, (Below.refl _ _).alloc (Nat.le_refl _) _⟩
      · obtain rfl : E = false := by rw [← hE]; simp [Fate.ok, q2]
        have d : decide (fc ≤ 9) = false := by simpa using q2
        clear hE
        go_enter Try.func29, Try.ntmps29
        go_wp2
        go_ret
        exact ⟨rfl, (Below.refl _ _).alloc (Nat.le_refl _) _⟩
    · obtain rfl : E = false := by rw [← hE]; simp [Fate.ok, q1]
      have d : decide (1 ≤ fc) = false := by simpa using q1
      clear hE
      go_enter Try.func29, Try.ntmps29
      go_wp2
      go_ret
      exact ⟨rfl, (Below.refl _ _).alloc (Nat.le_refl _) _⟩
end Go.Proofs.Ytfpiiehdmdmoeaa
