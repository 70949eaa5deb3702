/-
  Lib1
-/
import Derived.Shelf.Slices.SearchI
import Derived.Shelf.Slices.Empties
import Derived.Shelf.Slices.Clone
import Derived.Ground.Names2Prog
import Derived.Test.YtaielhafpmjkaaaGreatDoorQ18
import Derived.Test.YtaielhafpmjkaaaGreatDoorQ20
namespace Go.Proofs
open Go.RowKit Go.Lib
end Go.Proofs
namespace Go.Proofs.YtaielhafpmjkaaaGreatDoor
open Go.RowKit Go.Shelf
theorem At.cellsI {w : World} {A : Option Addr} {c : Nat} {l : List Int} (h : At w 1 A l.length c (ints l)) (h0 : 0 < l.length) : ∃ b off, A = some ⟨b, off, none⟩ ∧ ∀ j, j < l.length → w.cell? ⟨b, off + j, none⟩ = some (.int .i64 (l.getD j 0)) := by
 obtain ⟨ad, hA, hc⟩ := h.1.2.2 h0
 have hx : ∀ j, j < l.length → w.cell? (ad.add j) = some (.int .i64 (l.getD j 0)) := fun j hj => hc j _ (by simp [ints, hj])
 obtain ⟨b, off, r⟩ := ad
 have h1 := hx 0 h0
 obtain rfl : r = none := by
  cases r with
  | none => rfl
  | some r =>
   simp only [Addr.add, World.cell?] at h1
   split at h1 <;> simp at h1
 exact ⟨b, off, hA, fun j hj => by have h2 := hx j hj; simp only [Addr.add] at h2; split at h2 <;> simp_all⟩
theorem search_any {w : World} {A : Option Addr} {c : Nat} {l : List Int} (h : At w 1 A l.length c (ints l)) (hs : l.Pairwise (· ≤ ·)) (hl : l.length < 4611686018427387904) (x : Int) :
 Calls Tryz.prog 67 #[.slice A l.length c, .int .i64 x] w (RetB (.tuple #[.int .i64 (l.countP (· < x) : Nat), .bool (l.contains x)]) w) := by
 cases l with
 | nil =>
  refine (Any.slices_BinarySearch_int_empty Tryz.laysSearch A c x w).mono ?_
  rintro e w' ⟨rfl, rfl⟩
  exact ⟨rfl, Below.refl _ _⟩
 | cons y l =>
  obtain ⟨b, off, rfl, hc⟩ := h.cellsI (by simp)
  refine (Any.slices_BinarySearch_int Tryz.laysSearch b off (y :: l).length c (y :: l) x w (Nat.le_refl _) hl hc (by rw [List.take_length]; exact hs)).mono ?_
  rintro e w' ⟨rfl, q, rfl⟩
  rw [List.take_length]
  exact ⟨rfl, below_drewN _ _⟩
end Go.Proofs.YtaielhafpmjkaaaGreatDoor
