/-
  The contracts of estoppelref46.Packets and Count, and of received.
-/
import Derived.Test.YtfpiiehdmdmoeaaEq
import Derived.Test.YtfpiiehdmdmoeaaSend
namespace Go.Proofs.Ytfpiiehdmdmoeaa
open Go.RowKit

def sameList : List Pkt → List Pkt → Bool
  | [], [] => true
  | a :: l, b :: r => a.same b && sameList l r
  | _, _ => false
theorem sameList_iff : ∀ l r : List Pkt, sameList l r = true ↔ l = r
  | [], [] => by simp [sameList]
  | a :: l, [] => by simp [sameList]
  | [], b :: r => by simp [sameList]
  | a :: l, b :: r => by simp [sameList, Pkt.same_iff, sameList_iff l r]
theorem sameList_len {l r : List Pkt} (h : l.length ≠ r.length) : sameList l r = false := by
  cases e : sameList l r with
  | false => rfl
  | true => exact absurd (by rw [(sameList_iff l r).1 e]) h
theorem sameList_at {l r : List Pkt} {k : Nat} {x y : Pkt} (hx : l[k]? = some x) (hy : r[k]? = some y) (h : x.same y = false) : sameList l r = false := by
  cases e : sameList l r with
  | false => rfl
  | true =>
    rw [(sameList_iff l r).1 e, hy] at hx
    injection hx with hx
    rw [(Pkt.same_iff x y).2 hx.symm] at h
    cases h
theorem take_snoc_eq {l r : List Pkt} {k : Nat} {x y : Pkt} (hx : l[k]? = some x) (hy : r[k]? = some y) (h : x.same y = true) (hp : l.take k = r.take k) : l.take (k + 1) = r.take (k + 1) := by
  obtain ⟨h1, rfl⟩ := List.getElem?_eq_some_iff.1 hx
  obtain ⟨h2, rfl⟩ := List.getElem?_eq_some_iff.1 hy
  rw [List.take_succ_eq_append_getElem h1, List.take_succ_eq_append_getElem h2, hp, (Pkt.same_iff _ _).1 h]

/-- Returned v; the world as it was but for draws. -/
def RetQ (v : Value) (w : World) (e : Ending) (w' : World) : Prop := e = .returned v ∧ ∃ n, w' = w.drewN n

set_option maxHeartbeats 400000 in
theorem packets_any (A B : Option Addr) (n m c d : Nat) (w : World) (xl yl : List Pkt) (hn : xl.length = n) (hm : yl.length = m) (ha : Src w 3 A n (flatP xl)) (hb : Src w 3 B m (flatP yl)) (hn5 : n ≤ 10000000) (hm5 : m ≤ 10000000) :
    Calls Try.prog 18 #[.slice A n c, .slice B m d] w (RetQ (.bool (sameList xl yl)) w) := by
  generalize hE : sameList xl yl = E
  have HE := Lib.hid hE; clear hE
  have HN := Lib.hid hn; clear hn
  have HM := Lib.hid hm; clear hm
  have HA := Lib.hid ha; clear ha
  have HB := Lib.hid hb; clear hb
  have hneq := fun (w : World) (a1 a2 b1 b2 : Int) (a3 b3 : ByteArray) => run_neq_pkt w ⟨a1, a2, a3⟩ ⟨b1, b2, b3⟩
  simp only at hneq
  by_cases hnm : n = m
  · subst hnm
    go_enter Try.func18, Try.ntmps18
    go_wp2
    go_loopw [5] (fun i wr => ∃ k nq : Nat, k ≤ n ∧ i = .int .i64 k ∧ wr = w.drewN nq ∧ Hid (xl.take k = yl.take k)) (fun i _ => n - (intOf i).toNat)
    case atStart => exact ⟨0, 0, Nat.zero_le _, rfl, rfl, rfl⟩
    case round =>
      obtain ⟨k, nq, hk, rfl, rfl, hpre⟩ := hrel
      by_cases hlt : k < n
      · obtain ⟨b1, o1, rfl, hb1, hc1⟩ := HA.out.form (by omega) (by omega)
        obtain ⟨b2, o2, rfl, hb2, hc2⟩ := HB.out.form (by omega) (by omega)
        obtain ⟨x, hx⟩ : ∃ x, xl[k]? = some x := ⟨xl[k]'(by rw [HN.out]; exact hlt), List.getElem?_eq_getElem _⟩
        obtain ⟨y, hy⟩ : ∃ y, yl[k]? = some y := ⟨yl[k]'(by rw [HM.out]; exact hlt), List.getElem?_eq_getElem _⟩
        have hxw : ∀ i, i < 3 → w.cell? ⟨b1, o1 + k * 3 + i, none⟩ = x.cells[i]? := fun i hi => by
          rw [Nat.add_assoc, hc1 _ (by omega)]
          exact get_flat _ 3 (fun _ => rfl) xl k i x hx hi
        have hyw : ∀ i, i < 3 → w.cell? ⟨b2, o2 + k * 3 + i, none⟩ = y.cells[i]? := fun i hi => by
          rw [Nat.add_assoc, hc2 _ (by omega)]
          exact get_flat _ 3 (fun _ => rfl) yl k i y hy hi
        obtain ⟨xa, xb, xs⟩ := x
        obtain ⟨ya, yb, ys⟩ := y
        have x0 : w.cell? ⟨b1, o1 + k * 3, none⟩ = some (.int .i64 xa) := hxw 0 (by omega)
        have x1 : w.cell? ⟨b1, o1 + k * 3 + 1, none⟩ = some (.int .i64 xb) := hxw 1 (by omega)
        have x2 : w.cell? ⟨b1, o1 + k * 3 + 2, none⟩ = some (.string xs) := hxw 2 (by omega)
        have y0 : w.cell? ⟨b2, o2 + k * 3, none⟩ = some (.int .i64 ya) := hyw 0 (by omega)
        have y1 : w.cell? ⟨b2, o2 + k * 3 + 1, none⟩ = some (.int .i64 yb) := hyw 1 (by omega)
        have y2 : w.cell? ⟨b2, o2 + k * 3 + 2, none⟩ = some (.string ys) := hyw 2 (by omega)
        clear hxw hyw
        have HC1 := Lib.hid hc1; clear hc1
        have HC2 := Lib.hid hc2; clear hc2
        have HX := Lib.hid hx; clear hx
        have HY := Lib.hid hy; clear hy
        have hk1 : (k : Int) < (n : Int) := by omega
        have hk0 : (0 : Int) ≤ (k : Int) := by omega
        cases hs : Pkt.same ⟨xa, xb, xs⟩ ⟨ya, yb, ys⟩ with
        | true =>
          go_wp2
          go_quiet (fail)
          go_wp2
          go_roundw
          case rel => exact ⟨k + 1, _, by omega, by go_num, rfl, take_snoc_eq HX.out HY.out hs hpre.out⟩
          case measure => simp [intOf]; omega
        | false =>
          go_wp2
          go_quiet (fail)
          go_wp2
          go_ret
          rw [← HE.out, sameList_at HX.out HY.out hs]
          exact ⟨rfl, _, World.drewN_drewN _ _ _⟩
      · go_wp2
        go_ret
        have e := hpre.out
        rw [List.take_of_length_le (by rw [HN.out]; omega), List.take_of_length_le (by rw [HM.out]; omega)] at e
        rw [← HE.out, (sameList_iff xl yl).2 e]
        exact ⟨rfl, _, rfl⟩
  · have hd : ((n : Int) != (m : Int)) = true := by simp; omega
    obtain rfl : E = false := by rw [← HE.out]; exact sameList_len (by rw [HN.out, HM.out]; exact hnm)
    go_enter Try.func18, Try.ntmps18
    go_wp2
    go_ret
    exact ⟨rfl, 0, rfl⟩

def count (l : List Pkt) (p : Pkt) : Nat := (l.filter (fun x => x.same p)).length
theorem count_snoc {l : List Pkt} {k : Nat} {x : Pkt} (hx : l[k]? = some x) (p : Pkt) : count (l.take (k + 1)) p = count (l.take k) p + (if x.same p = true then 1 else 0) := by
  obtain ⟨hk, rfl⟩ := List.getElem?_eq_some_iff.1 hx
  unfold count
  rw [List.take_succ_eq_append_getElem hk, List.filter_append, List.length_append]
  by_cases h : l[k].same p = true <;> simp [h]
theorem count_le (l : List Pkt) (p : Pkt) : count l p ≤ l.length := List.length_filter_le _ _

set_option maxHeartbeats 400000 in
theorem count_any (A : Option Addr) (n c : Nat) (w : World) (xl : List Pkt) (p : Pkt) (hn : xl.length = n) (ha : Src w 3 A n (flatP xl)) (hn5 : n ≤ 10000000) :
    Calls Try.prog 26 #[.slice A n c, p.val] w (RetB (.int .i64 (count xl p)) w) := by
  obtain ⟨ya, yb, ys⟩ := p
  unfold Pkt.val
  simp only
  have HN := Lib.hid hn; clear hn
  have HA := Lib.hid ha; clear ha
  have heq := fun (w : World) (a1 a2 b1 b2 : Int) (a3 b3 : ByteArray) => run_eql_pkt w ⟨a1, a2, a3⟩ ⟨b1, b2, b3⟩
  simp only at heq
  go_enter Try.func26, Try.ntmps26
  go_wp2
  obtain ⟨W, HW⟩ : ∃ W, Hid (W = w.alloc (.cells #[.int .i64 ya, .int .i64 yb, .string ys] 31)) := ⟨_, rfl⟩
  have p0 : W.cell? ⟨w.heap.size, 0, none⟩ = some (.int .i64 ya) := by rw [HW.out]; go_simp
  have p1 : W.cell? ⟨w.heap.size, 1, none⟩ = some (.int .i64 yb) := by rw [HW.out]; go_simp
  have p2 : W.cell? ⟨w.heap.size, 2, none⟩ = some (.string ys) := by rw [HW.out]; go_simp
  have HB : Hid (Below w.heap.size w W) := by show Below _ _ _; rw [HW.out]; exact (Below.refl _ _).alloc (Nat.le_refl _) _
  rw [← HW.out]
  go_loopw [5, 6] (fun t i wr => ∃ k nq : Nat, k ≤ n ∧ i = .int .i64 k ∧ t = .int .i64 (count (xl.take k) ⟨ya, yb, ys⟩) ∧ wr = W.drewN nq) (fun _ i _ => n - (intOf i).toNat)
  case atStart => exact ⟨0, 0, Nat.zero_le _, rfl, rfl, rfl⟩
  case round =>
    obtain ⟨k, nq, hk, rfl, rfl, rfl⟩ := hrel
    have hcl := count_le (xl.take k) ⟨ya, yb, ys⟩
    have hct : (xl.take k).length ≤ k := List.length_take_le _ _
    by_cases hlt : k < n
    · obtain ⟨b1, o1, rfl, hb1, hc1⟩ := (HA.out.below (by omega) HB.out).form (by omega) (by omega)
      obtain ⟨x, hx⟩ : ∃ x, xl[k]? = some x := ⟨xl[k]'(by rw [HN.out]; exact hlt), List.getElem?_eq_getElem _⟩
      have hxw : ∀ i, i < 3 → W.cell? ⟨b1, o1 + k * 3 + i, none⟩ = x.cells[i]? := fun i hi => by
        rw [Nat.add_assoc, hc1 _ (by omega)]
        exact get_flat _ 3 (fun _ => rfl) xl k i x hx hi
      have hsn := count_snoc hx ⟨ya, yb, ys⟩
      have HSN := Lib.hid hsn; clear hsn
      obtain ⟨xa, xb, xs⟩ := x
      have x0 : W.cell? ⟨b1, o1 + k * 3, none⟩ = some (.int .i64 xa) := hxw 0 (by omega)
      have x1 : W.cell? ⟨b1, o1 + k * 3 + 1, none⟩ = some (.int .i64 xb) := hxw 1 (by omega)
      have x2 : W.cell? ⟨b1, o1 + k * 3 + 2, none⟩ = some (.string xs) := hxw 2 (by omega)
      clear hxw
      have HC1 := Lib.hid hc1; clear hc1
      have HX := Lib.hid hx; clear hx
      have hk1 : (k : Int) < (n : Int) := by omega
      have hk0 : (0 : Int) ≤ (k : Int) := by omega
      generalize hcc : count (xl.take k) ⟨ya, yb, ys⟩ = cc at HSN hcl ⊢
      have HCC := Lib.hid hcc; clear hcc
      cases hs : Pkt.same ⟨xa, xb, xs⟩ ⟨ya, yb, ys⟩ with
      | true =>
        go_wp2
        go_quiet (fail)
        go_wp2
        go_roundw
        case rel => exact ⟨k + 1, _, by omega, by go_num, by rw [HSN.out, if_pos hs]; go_num, rfl⟩
        case measure => simp [intOf]; omega
      | false =>
        go_wp2
        go_quiet (fail)
        go_wp2
        go_roundw
        case rel => exact ⟨k + 1, _, by omega, by go_num, by rw [HSN.out, if_neg (by rw [hs]; decide)]; go_num, rfl⟩
        case measure => simp [intOf]; omega
    · go_wp2
      go_ret
      rw [List.take_of_length_le (by rw [HN.out]; omega)]
      exact ⟨rfl, HB.out.mono (Nat.le_refl _) |>.trans ⟨rfl, rfl, rfl, Nat.le_refl _, fun _ _ => rfl⟩⟩
end Go.Proofs.Ytfpiiehdmdmoeaa
