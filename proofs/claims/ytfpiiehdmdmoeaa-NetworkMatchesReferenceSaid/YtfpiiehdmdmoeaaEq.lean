/-
  Two packets compared.
-/
import Derived.Test.YtfpiiehdmdmoeaaPlayMem
namespace Go.Proofs.Ytfpiiehdmdmoeaa
open Go.RowKit

/-- Whether two packets are equal. -/
def Pkt.same (a b : Pkt) : Bool := (a.frm == b.frm) && (a.dst == b.dst) && (a.body.toList == b.body.toList)
theorem Pkt.same_iff (a b : Pkt) : a.same b = true ↔ a = b := by
  obtain ⟨a1, a2, a3⟩ := a
  obtain ⟨b1, b2, b3⟩ := b
  simp only [Pkt.same, Bool.and_eq_true, beq_iff_eq, Pkt.mk.injEq, and_assoc]
  constructor
  · rintro ⟨h1, h2, h3⟩
    refine ⟨h1, h2, ?_⟩
    rw [ByteArray.toList_eq, ByteArray.toList_eq] at h3
    obtain ⟨⟨x⟩⟩ := a3
    obtain ⟨⟨y⟩⟩ := b3
    simp at h3
    rw [h3]
  · rintro ⟨h1, h2, h3⟩
    exact ⟨h1, h2, by rw [h3]⟩

theorem run_equal_pkt (w : World) (a b : Pkt) : (Op.equalIn 10000 31 (.agg #[.int .i64 a.frm, .int .i64 a.dst, .string a.body]) (.agg #[.int .i64 b.frm, .int .i64 b.dst, .string b.body])).run Try.prog w = .ok (a.same b) w := by
  obtain ⟨a1, a2, a3⟩ := a
  obtain ⟨b1, b2, b3⟩ := b
  go_simp
  unfold Pkt.same
  by_cases h1 : a1 = b1 <;> by_cases h2 : a2 = b2 <;> by_cases h3 : a3.toList = b3.toList <;> simp [h1, h2, h3]
theorem run_eql_pkt (w : World) (a b : Pkt) : (binOp .eql 31 (.agg #[.int .i64 a.frm, .int .i64 a.dst, .string a.body]) (.agg #[.int .i64 b.frm, .int .i64 b.dst, .string b.body])).run Try.prog w = .ok (.bool (a.same b)) w := by
  rw [run_eql_struct, run_equal_pkt]
  rfl
theorem run_neq_pkt (w : World) (a b : Pkt) : (binOp .neq 31 (.agg #[.int .i64 a.frm, .int .i64 a.dst, .string a.body]) (.agg #[.int .i64 b.frm, .int .i64 b.dst, .string b.body])).run Try.prog w = .ok (.bool (!(a.same b))) w := by
  rw [run_neq_struct, run_equal_pkt]
  rfl
end Go.Proofs.Ytfpiiehdmdmoeaa
