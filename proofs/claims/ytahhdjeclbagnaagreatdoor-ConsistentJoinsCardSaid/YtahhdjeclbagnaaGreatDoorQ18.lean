/-
  CsN
-/
import Derived.Maps.Keyed
import Derived.DeepKeys4
import Derived.Test.YtahhdjeclbagnaaGreatDoorQ12
namespace Go.Proofs.YtahhdjeclbagnaaGreatDoor
open Go.RowKit
def In64 (i : Int) : Prop := (Lit.int .i64 i).wf = true
def encI (i : Int) : Lit := .int .i64 i
theorem encI_inj (x y : Int) (_ : In64 x) (_ : In64 y) (h : encI x = encI y) : x = y := by
 unfold encI at h
 injection h
theorem lawI : Maps.Keyed Tryz.prog 3 := Maps.int_keyed Tryz.underlying3
theorem keyI {i : Int} (h : In64 i) : keyOf Tryz.prog 3 (.int .i64 i) = some (encI i) := Maps.keyOf_int_mk Tryz.underlying3 h
theorem zeroI (w : World) : (zeroValue 3).run Tryz.prog w = .ok (.int .i64 0) w := by kernel_rfl
theorem zeroF (w : World) : (zeroValue 50).run Tryz.prog w = .ok (.agg #[.int .i64 0, .int .i64 0, .int .i64 0, .int .i64 0, .int .i64 0, .bool false]) w := by kernel_rfl
def InB (b : KBef) : Prop := In64 b.ref ∧ In64 b.next
def encB (b : KBef) : Lit := .string (keyBytes [.int .i64 b.ref, .int .i64 b.next])
theorem laidB : laidOutB Tryz.prog = true := by kernel_rfl
theorem rowB : (61 : TypeId) < Tryz.prog.types.size := of_decide_eq_true (by kernel_rfl)
theorem keyAtB : Tryz.prog.keyTypeAt 2 61 = true := by kernel_rfl
theorem klawB : WideMaps.KeyLaw Tryz.prog 61 := by
 refine deep_law_laid laidB (m := 2) (by omega) rowB keyAtB ?_
 rw [Tryz.underlying61]
theorem lawB : Maps.Keyed Tryz.prog 61 := Maps.Keyed.of_law klawB
theorem keyTypeB : Tryz.prog.keyType 61 = true := by kernel_rfl
theorem cellsB : Tryz.prog.cellsOf 61 = 2 := by kernel_rfl
theorem cellsI : Tryz.prog.cellsOf 3 = 1 := by kernel_rfl
theorem litsB (m : Nat) {x y : Int} (hx : (Lit.int .i64 x).wf = true) (hy : (Lit.int .i64 y).wf = true) : Tryz.prog.keyLits (m + 2) 61 [.int .i64 x, .int .i64 y] = some [.int .i64 x, .int .i64 y] := by
 have hi : ∀ z : Int, (Lit.int .i64 z).wf = true → Tryz.prog.keyLits (m + 1) 3 [.int .i64 z] = some [.int .i64 z] := by
  intro z hz
  unfold Program.keyLits
  rw [Tryz.underlying3]
  simp [hz]
 unfold Program.keyLits
 rw [Tryz.underlying61]
 simp [cellsB, cellsI, hi x hx, hi y hy]
theorem keyB {b : KBef} (h : InB b) : keyOf Tryz.prog 61 (.agg #[.int .i64 b.ref, .int .i64 b.next]) = some (encB b) := by
 obtain ⟨h1, h2⟩ := h
 unfold In64 at h1 h2
 have hf : (Value.agg #[.int .i64 b.ref, .int .i64 b.next]).formed Tryz.prog 61 = true := by
  simp [Value.formed, Tryz.underlying61, cellsB]
 unfold keyOf
 rw [Tryz.underlying61]
 simp only [keyTypeB, hf, Bool.and_self, if_true]
 obtain ⟨m, hm⟩ : ∃ m, Tryz.prog.types.size + 1 = m + 2 := ⟨Tryz.prog.types.size - 1, by have h : 0 < Tryz.prog.types.size := of_decide_eq_true (by kernel_rfl); omega⟩
 rw [hm]
 show Option.map _ (Tryz.prog.keyLits (m + 2) 61 [.int .i64 b.ref, .int .i64 b.next]) = _
 rw [litsB m h1 h2]
 rfl
theorem encB_inj (x y : KBef) (hx : InB x) (hy : InB y) (h : encB x = encB y) : x = y := by
 have h1 := keyB hx
 have h2 := keyB hy
 rw [h] at h1
 have h3 := lawB.inj h1 h2
 obtain ⟨a, b⟩ := x
 obtain ⟨c, d⟩ := y
 simp only [Value.agg.injEq, Array.mk.injEq, List.cons.injEq, Value.int.injEq, true_and, and_true] at h3
 rw [h3.1, h3.2]
theorem zeroO (w : World) : (zeroValue 4).run Tryz.prog w = .ok (.bool false) w := by kernel_rfl
end Go.Proofs.YtahhdjeclbagnaaGreatDoor
