/-
  The contract of received.
-/
import Derived.Test.YtfpiiehdmdmoeaaCmp
import Derived.Test.YtfpiiehdmdmoeaaPureA
namespace Go.Proofs.Ytfpiiehdmdmoeaa
open Go.RowKit


theorem sumLen_snoc {gs : List (List Pkt)} {k : Nat} (hk : k < gs.length) : sumLen (gs.take (k + 1)) = sumLen (gs.take k) + (gs.getD k []).length := by
  unfold sumLen
  rw [List.take_succ_eq_append_getElem hk, List.map_append, List.sum_append]
  simp [hk]
theorem sumLen_le {gs : List (List Pkt)} {m : Nat} (h : ∀ l ∈ gs, l.length ≤ m) : sumLen gs ≤ gs.length * m := by
  induction gs with
  | nil => simp [sumLen]
  | cons a gs ih =>
    have h1 := ih (fun l hl => h l (by simp [hl]))
    have h2 := h a (by simp)
    simp only [sumLen, List.map_cons, List.sum_cons, List.length_cons, Nat.succ_mul] at h1 ⊢
    omega

set_option maxHeartbeats 400000 in
theorem received_any {w : World} {G : Nat → Prop} {bb gb : Nat} {sent : List Pkt} {got : List (List Pkt)} (hb : BookRep w G bb gb sent got) (sA : Option Addr) (sn sc : Nat) (h12 : got.length ≤ 12) (hm : ∀ l ∈ got, l.length ≤ 4000000) :
    Calls Try.prog 27 #[.agg #[.slice sA sn sc, .slice (some ⟨gb, 0, none⟩) got.length got.length]] w (RetB (.int .i64 (sumLen got)) w) := by
  obtain ⟨sv, sblk, vs, gblk, hb⟩ := hb
  have hgl := hb.lt gb hb.inG
  have HB := Lib.hid hb; clear hb
  have HM := Lib.hid hm; clear hm
  go_enter Try.func27, Try.ntmps27
  go_wp2
  go_loop [3, 4] (fun t i => ∃ k : Nat, k ≤ got.length ∧ i = .int .i64 k ∧ t = .int .i64 (sumLen (got.take k))) (fun _ i => got.length - (intOf i).toNat)
  case atStart => exact ⟨0, Nat.zero_le _, rfl, rfl⟩
  case round =>
    obtain ⟨k, hk, rfl, rfl⟩ := hrel
    have hs1 : sumLen (got.take k) ≤ 48000000 := by
      have h1 := sumLen_le (gs := got.take k) (m := 4000000) (fun l hl => HM.out l (List.mem_of_mem_take hl))
      have h2 : (got.take k).length ≤ 12 := by rw [List.length_take]; omega
      have h3 := Nat.mul_le_mul_right 4000000 h2
      omega
    by_cases hlt : k < got.length
    · have kc := HB.out.cg k hlt
      obtain ⟨A, c, hv, _, _⟩ := (HB.out.gotR k hlt).val
      rw [hv] at kc
      have hsn := sumLen_snoc hlt
      have hgk : (got.getD k []).length ≤ 4000000 := getD_le HM.out k
      have HSN := Lib.hid hsn; clear hsn
      have HV := Lib.hid hv; clear hv
      generalize sumLen (got.take k) = cc at HSN hs1 ⊢
      generalize (got.getD k []).length = gg at HSN hgk kc HV
      go_wp2
      go_round
      case rel => exact ⟨k + 1, by omega, by go_num, by rw [HSN.out]; go_num⟩
      case measure => simp [intOf]; omega
    · go_wp2
      go_ret
      rw [List.take_of_length_le (by omega)]
      exact ⟨rfl, (Below.refl _ _).alloc (Nat.le_refl _) _⟩
end Go.Proofs.Ytfpiiehdmdmoeaa
