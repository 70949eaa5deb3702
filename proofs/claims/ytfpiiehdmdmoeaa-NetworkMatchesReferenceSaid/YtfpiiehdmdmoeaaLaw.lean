/-
  The contracts of the law's own small functions: short, small, good.
-/
import Derived.Test.YtfpiiehdmdmoeaaBook
import Derived.Test.YtfpiiehdmdmoeaaPlay
namespace Go.Proofs.Ytfpiiehdmdmoeaa
open Go.RowKit

def Opn.cells (o : Opn) : List Value := [.int .i64 o.kind, .int .i64 o.house, .int .i64 o.p.frm, .int .i64 o.p.dst, .string o.p.body]
def flatO (l : List Opn) : List Value := l.flatMap Opn.cells
theorem len_flatO (l : List Opn) : (flatO l).length = l.length * 5 := length_flat _ 5 (fun _ => rfl) l

def shortB (l : List Opn) : Bool := l.all (fun o => decide (o.p.body.size ≤ 100))

theorem Arg.below {w w' : World} {size n : Nat} {v : Value} {xs : List Value} (h : Arg w size v n xs) (hs : 0 < size) (hb : Below w.heap.size w w') : Arg w' size v n xs := by
  obtain ⟨A, c, hv, h1, h2⟩ := h
  exact ⟨A, c, hv, h1.below hs hb, h2⟩

theorem short_snoc {l : List Opn} {k : Nat} {o : Opn} (ho : l[k]? = some o) (h : shortB (l.take k) = true) (hb : o.p.body.size ≤ 100) : shortB (l.take (k + 1)) = true := by
  obtain ⟨hk, rfl⟩ := List.getElem?_eq_some_iff.1 ho
  unfold shortB at h ⊢
  rw [List.take_succ_eq_append_getElem hk, List.all_append, h]
  simpa using hb
theorem short_bad {l : List Opn} {k : Nat} {o : Opn} (ho : l[k]? = some o) (hb : ¬ o.p.body.size ≤ 100) : shortB l = false := by
  cases e : shortB l with
  | false => rfl
  | true =>
    unfold shortB at e
    have := List.all_eq_true.1 e o (List.mem_of_getElem? ho)
    exact absurd (by simpa using this) hb

set_option maxHeartbeats 400000 in
theorem short_any (v : Value) (l : List Opn) (w : World) (ha : Arg w 5 v l.length (flatO l)) (hl : l.length ≤ 9223372036854775807) : Calls Try.prog 11 #[v] w (Ret (.bool (shortB l)) w) := by
  obtain ⟨A, c, rfl, hs, hA⟩ := ha
  have HS := Lib.hid hs; clear hs
  have HA := Lib.hid hA; clear hA
  generalize hB : shortB l = B
  have HB := Lib.hid hB; clear hB
  go_enter Try.func11, Try.ntmps11
  go_wp2
  go_loop [3] (fun i => ∃ k : Nat, k ≤ l.length ∧ i = .int .i64 k ∧ Hid (shortB (l.take k) = true)) (fun i => l.length - (intOf i).toNat)
  case atStart => exact ⟨0, Nat.zero_le _, rfl, rfl⟩
  case round =>
    obtain ⟨k, hk, rfl, hpre⟩ := hrel
    by_cases hlt : k < l.length
    · obtain ⟨b, off, rfl, hbl, hcell⟩ := HS.out.form (by omega) (by omega)
      obtain ⟨o, ho⟩ : ∃ o, l[k]? = some o := ⟨l[k], List.getElem?_eq_getElem hlt⟩
      have k4 : w.cell? ⟨b, off + k * 5 + 4, none⟩ = some (.string o.p.body) := by rw [Nat.add_assoc, hcell _ (by omega)]; exact get_flat _ 5 (fun _ => rfl) l k 4 o ho (by omega)
      have HC := Lib.hid hcell; clear hcell
      have HO := Lib.hid ho; clear ho
      generalize hbd : o.p.body = bd at k4
      have HBD := Lib.hid hbd; clear hbd
      by_cases hsz : bd.size ≤ 100
      · go_wp2
        go_round
        case rel => exact ⟨k + 1, by omega, by go_num, short_snoc HO.out hpre.out (by rw [HBD.out]; exact hsz)⟩
        case measure => simp [intOf]; omega
      · go_wp2
        go_ret
        rw [← HB.out, short_bad HO.out (by rw [HBD.out]; omega)]
        exact ⟨rfl, rfl⟩
    · go_wp2
      go_ret
      have e := hpre.out
      rw [List.take_of_length_le (by omega)] at e
      rw [← HB.out, e]
      exact ⟨rfl, rfl⟩

def smallB (fs : List Fate) (l : List Opn) : Bool := decide (fs.length ≤ 60) && decide (l.length ≤ 200) && shortB l

set_option maxHeartbeats 400000 in
theorem small_any (v u : Value) (fs : List Fate) (l : List Opn) (w : World) (hf : Arg w 3 v fs.length (flatF fs)) (ha : Arg w 5 u l.length (flatO l)) (hl : l.length ≤ 9223372036854775807) : Calls Try.prog 23 #[v, u] w (Ret (.bool (smallB fs l)) w) := by
  obtain ⟨A, c, rfl, _⟩ := hf
  have HL : Hid (Arg w 5 u l.length (flatO l)) := ha
  obtain ⟨A2, c2, rfl, _⟩ := ha
  generalize hB : smallB fs l = B
  have HB := Lib.hid hB; clear hB
  by_cases h1 : fs.length ≤ 60
  · by_cases h2 : l.length ≤ 200
    · cases h3 : shortB l with
      | true =>
        obtain rfl : B = true := by rw [← HB.out]; simp [smallB, h1, h2, h3]
        go_enter Try.func23, Try.ntmps23
        go_wp2_with (go_at_call 11; refine (short_any _ l _ HL.out hl).mono ?_; rintro e w' ⟨rfl, rfl⟩)
        go_ret
        exact ⟨rfl, rfl⟩
      | false =>
        obtain rfl : B = false := by rw [← HB.out]; simp [smallB, h3]
        go_enter Try.func23, Try.ntmps23
        go_wp2_with (go_at_call 11; refine (short_any _ l _ HL.out hl).mono ?_; rintro e w' ⟨rfl, rfl⟩)
        go_ret
        exact ⟨rfl, rfl⟩
    · obtain rfl : B = false := by rw [← HB.out]; simp [smallB, h2]
      have d2 : decide ((l.length : Int) ≤ 200) = false := by simp; omega
      have d3 : decide (l.length ≤ 200) = false := by simp; omega
      go_enter Try.func23, Try.ntmps23
      go_wp2_with fail
      go_ret
      exact ⟨rfl, rfl⟩
  · obtain rfl : B = false := by rw [← HB.out]; simp [smallB, h1]
    have d2 : decide ((fs.length : Int) ≤ 60) = false := by simp; omega
    have d3 : decide (fs.length ≤ 60) = false := by simp; omega
    go_enter Try.func23, Try.ntmps23
    go_wp2_with fail
    go_ret
    exact ⟨rfl, rfl⟩

set_option maxHeartbeats 400000 in
theorem good_any (h : Int) (v : Value) (fs : List Fate) (w : World) (hf : Arg w 3 v fs.length (flatF fs)) (hn5 : fs.length ≤ 5864062014805) : Calls Try.prog 24 #[.int .i64 h, v] w (RetB (.bool (okNew h fs)) w) := by
  by_cases h1 : h < 1
  · have e : okNew h fs = false := by simp [okNew]; omega
    rw [e]
    obtain ⟨A, c, rfl, _⟩ := hf
    have d1 : decide (1 ≤ h) = false := by simp; omega
    go_enter Try.func24, Try.ntmps24
    go_wp2_with fail
    go_ret
    exact ⟨rfl, Below.refl _ _⟩
  · by_cases h2 : 12 < h
    · have e : okNew h fs = false := by simp [okNew]; omega
      rw [e]
      obtain ⟨A, c, rfl, _⟩ := hf
      have d1 : decide (1 ≤ h) = true := by simp; omega
      have d2 : decide (h ≤ 12) = false := by simp; omega
      go_enter Try.func24, Try.ntmps24
      go_wp2_with fail
      go_ret
      exact ⟨rfl, Below.refl _ _⟩
    · have d1 : 1 ≤ h := by omega
      have d2 : h ≤ 12 := by omega
      have HF := Lib.hid hf; clear hf
      generalize hE : okNew h fs = E
      have HE := Lib.hid hE; clear hE
      have hnew := new_any h v fs w HF.out hn5
      rw [HE.out] at hnew
      obtain ⟨A, c, rfl, _⟩ := HF.out
      have HN := Lib.hid hnew; clear hnew
      go_enter Try.func24, Try.ntmps24
      cases E with
      | false =>
        go_wp2_with (go_at_call 12; refine HN.out.mono ?_; rintro e w' ⟨hb, ⟨_, rfl⟩ | ⟨hx, _⟩⟩; rotate_left; (cases hx))
        go_ret
        exact ⟨rfl, hb⟩
      | true =>
        go_wp2_with (go_at_call 12; refine HN.out.mono ?_; rintro e w' ⟨hb, ⟨hx, _⟩ | ⟨_, g, F, rfl, hr, hF⟩⟩; (cases hx); have HR := Lib.hid hr; clear hr; have HFF := Lib.hid hF; clear hF)
        go_ret
        exact ⟨rfl, hb⟩
end Go.Proofs.Ytfpiiehdmdmoeaa
