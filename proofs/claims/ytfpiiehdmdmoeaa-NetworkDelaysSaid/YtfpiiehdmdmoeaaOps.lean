/-
  Operations appended to a row of the law's own.
-/
import Derived.Test.YtfpiiehdmdmoeaaInv
import Derived.Test.YtfpiiehdmdmoeaaPureD
namespace Go.Proofs.Ytfpiiehdmdmoeaa
open Go.RowKit

theorem info33 : (Try.prog.info? 33).map (fun i => (i.zero, i.size, i.bytes)) = some (some (.agg #[.int .i64 0, .int .i64 0, .int .i64 0, .int .i64 0, .string ByteArray.empty]), 5, 48) := by kernel_rfl

theorem one_op (o : Opn) : ∀ u ∈ o.cells, u.oneCell' = true := by
  intro u hu
  simp [Opn.cells] at hu
  rcases hu with rfl | rfl | rfl | rfl | rfl <;> rfl
theorem one_flatO (l : List Opn) : ∀ u ∈ flatO l, u.oneCell' = true := by
  intro u hu
  obtain ⟨a, _, ha⟩ := List.mem_flatMap.1 hu
  exact one_op a u ha
theorem flatO_snoc (l : List Opn) (o : Opn) : flatO (l ++ [o]) = flatO l ++ o.cells := by simp [flatO]
theorem flatO_append (l r : List Opn) : flatO (l ++ r) = flatO l ++ flatO r := by simp [flatO]

theorem append_op {wr : World} {A : Option Addr} {m c : Nat} {xs : List Opn} {blk : Option Nat} (hrow : RowAt wr 33 5 (.slice A m c) m (flatO xs) blk) (o : Opn) (hm : m ≤ 10000) :
    ∃ A' c' w' blk', (Builtin.append_ #[23, 23] 23 #[.slice A m c, .slice (some ⟨wr.heap.size, 0, none⟩) 1 1]).run Try.prog (wr.alloc (.cells #[.int .i64 o.kind, .int .i64 o.house, .int .i64 o.p.frm, .int .i64 o.p.dst, .string o.p.body] 33)) = .ok (.slice A' (m + 1) c') w' ∧
      RowAt w' 33 5 (.slice A' (m + 1) c') (m + 1) (flatO (xs ++ [o])) blk' ∧ Upd (fun k => blk = some k) wr w' ∧ (blk' = blk ∨ ∃ k, blk' = some k ∧ wr.heap.size ≤ k) := by
  obtain ⟨i1, hi1, hy0, hy1, hy2⟩ := info_parts info33
  have hu0 : Upd (fun _ => False) wr (wr.alloc (.cells o.cells.toArray 33)) := (Upd.refl _ wr).alloc _
  obtain ⟨v2, w2, blk2, hrun, hrow2, hu2, hb2⟩ := run_append_row (P := Try.prog) (wr.alloc (.cells o.cells.toArray 33)) 23 23 33 i1 _ 5 48 Try.underlying23 hi1 hy0 hy1 hy2 rfl (.slice A m c) m _ blk (hrow.keep hu0 (fun _ _ h => h))
    (some ⟨wr.heap.size, 0, none⟩) 1 1 o.cells (src_new wr o.cells 5 33 (one_op o) rfl rfl) (by unfold maxLen; omega) (by omega)
  obtain ⟨A2, c2, rfl, _, _⟩ := hrow2.val
  refine ⟨A2, c2, w2, blk2, hrun, by rw [flatO_snoc]; exact hrow2, (hu0.mono (S' := fun k => blk = some k) (fun _ _ h => h.elim)).trans hu2 (fun _ _ h => h), ?_⟩
  rcases hb2 with e | ⟨k, e, hk⟩
  · exact .inl e
  · exact .inr ⟨k, e, Nat.le_trans hu0.size hk⟩

theorem RowAt.arg {w : World} {e : TypeId} {size n c : Nat} {A : Option Addr} {xs : List Value} {blk : Option Nat} (h : RowAt w e size (.slice A n c) n xs blk) (h1 : ∀ u ∈ xs, u.oneCell' = true) : Arg w size (.slice A n c) n xs := by
  obtain ⟨A2, c2, hv, hs⟩ := h.src h1
  injection hv with e1 _ e3
  subst e1 e3
  refine ⟨A, c, rfl, hs, fun hA => ?_⟩
  subst hA
  rcases h.2 with ⟨hv, hn, _⟩ | ⟨g, off, cap, cur, _, hv, _⟩
  · injection hv with _ _ hc
    exact ⟨hn, hc⟩
  · injection hv with hA
    cases hA

end Go.Proofs.Ytfpiiehdmdmoeaa
