/-
  Ratio; Con1
-/
import Derived.Test.YtahhdjeclbagnaaGreatDoorQ01
import Derived.Deep.LoopGhost
namespace Go.Proofs.YtahhdjeclbagnaaGreatDoor
open Go.RowKit
theorem ret_int {k : IntKind} {a b : Int} (h : a = b) : Ending.returned (.int k a) = .returned (.int k b) := by rw [h]
theorem ret_bool {a b : Bool} (h : a = b) : Ending.returned (.bool a) = .returned (.bool b) := by rw [h]
theorem magnitude_any (n : Int) (w : World) (h1 : -1000000000000 ≤ n) (h2 : n ≤ 1000000000000) : Calls Tryz.prog 113 #[.int .i64 n] w (Ret (.int .u64 (n.natAbs : Int)) w) := by
 by_cases h : n < 0
 · go_enter Tryz.func113, Tryz.ntmps113
   go_wp2
   go_ret
   refine ⟨?_, rfl⟩
   exact ret_int (by omega)
 · go_enter Tryz.func113, Tryz.ntmps113
   go_wp2
   go_ret
   refine ⟨?_, rfl⟩
   exact ret_int (by omega)
theorem take_foldl_snoc {l : List Nat} {k x : Nat} (hx : l[k]? = some x) : (l.take (k + 1)).foldl Nat.gcd 0 = Nat.gcd ((l.take k).foldl Nat.gcd 0) x := by
 obtain ⟨hk, rfl⟩ := List.getElem?_eq_some_iff.1 hx
 rw [List.take_succ_eq_append_getElem hk, List.foldl_append]
 rfl
def u64s (l : List Nat) : List Value := l.map (fun x : Nat => Value.int .u64 (x : Int))
set_option maxHeartbeats 1000000 in
theorem divisor_any (A : Option Addr) (c : Nat) (l : List Nat) (w : World) (hl : ∀ x ∈ l, x < 18446744073709551616) (hn : l.length ≤ 1000) (hs : Src w 1 A l.length (u64s l)) :
 Calls Tryz.prog 112 #[.slice A l.length c] w (RetB (.int .u64 ((l.foldl Nat.gcd 0 : Nat) : Int)) w) := by
 have HS := Lib.hid hs; clear hs
 have HL := Lib.hid hl; clear hl
 go_enter Tryz.func112, Tryz.ntmps112
 go_wp2
 go_loopg [3, 8] l.length (fun gk v3 v8 wr => ∃ (k g nq : Nat), gk = l.length - k ∧ k ≤ l.length ∧ v8 = .int .i64 k ∧ v3 = .int .u64 (g : Int) ∧ g < 18446744073709551616 ∧ Hid (g = (l.take k).foldl Nat.gcd 0) ∧ wr = w.drewN nq)
 case atStart => exact ⟨0, 0, 0, rfl, Nat.zero_le _, rfl, rfl, by omega, rfl, rfl⟩
 case round =>
  obtain ⟨k, g, nq, hgk, hk, rfl, rfl, hg, HG, rfl⟩ := hrel
  have HGK := Lib.hid hgk; clear hgk
  by_cases hlt : k < l.length
  · obtain ⟨b, off, rfl, hbl, hcell⟩ := HS.out.form (by omega) (by omega)
    obtain ⟨x, hx⟩ : ∃ x, l[k]? = some x := ⟨l[k], List.getElem?_eq_getElem hlt⟩
    have hxb := HL.out x (List.mem_of_getElem? hx)
    have k0 : w.cell? ⟨b, off + k, none⟩ = some (.int .u64 (x : Int)) := by rw [hcell _ (by omega)]; simp [u64s, hx]
    have HC := Lib.hid hcell; clear hcell
    have HX := Lib.hid hx; clear hx
    have j1 : (k : Int) < (l.length : Int) := by omega
    go_wp2
    go_loopg [3, 5] x (fun gk2 v3 v5 wr => ∃ (g' n' nq' : Nat), gk2 = n' ∧ v3 = .int .u64 (g' : Int) ∧ v5 = .int .u64 (n' : Int) ∧ g' < 18446744073709551616 ∧ n' < 18446744073709551616 ∧ Hid (Nat.gcd g' n' = Nat.gcd g x) ∧ wr = w.drewN nq')
    case atStart => exact ⟨g, x, nq, rfl, rfl, rfl, hg, hxb, rfl, rfl⟩
    case round =>
     obtain ⟨g', n', nq', hgk2, rfl, rfl, hg', hn', HGC, rfl⟩ := hrel
     have HGK2 := Lib.hid hgk2; clear hgk2
     by_cases h0 : n' = 0
     · subst h0
       go_wp2
       go_roundg (l.length - (k + 1))
       case measure => rw [HGK.out]; omega
       case rel => exact ⟨k + 1, g', nq', rfl, by omega, by go_num, rfl, hg', by
        show _ = _
        rw [take_foldl_snoc HX.out, ← HG.out, ← HGC.out, Nat.gcd_zero_right], rfl⟩
     · have hne : ((n' : Int) != 0) = true := by simp; omega
       have hne2 : ¬ (n' : Int) = 0 := by omega
       go_wp2
       go_quiet (fail)
       go_wp2
       go_roundg (g' % n')
       case measure => rw [HGK2.out]; exact Nat.mod_lt _ (by omega)
       case rel => exact ⟨n', g' % n', _, rfl, rfl, by go_num, hn', Nat.lt_trans (Nat.mod_lt _ (by omega)) hn', by
        show _ = _
        rw [← HGC.out, Nat.gcd_comm g' n', Nat.gcd_rec n' g', Nat.gcd_comm], World.drewN_drewN _ _ _⟩
  · obtain rfl : k = l.length := by omega
    go_wp2
    go_ret
    rw [HG.out, List.take_of_length_le (Nat.le_refl _)]
    exact ⟨rfl, below_drewN _ _⟩
def KRatio.ok (r : KRatio) : Bool := decide (1 ≤ r.den) && decide (r.den ≤ 1000000) && decide (-1000000000000 ≤ r.num) && decide (r.num ≤ 1000000000000) && decide (Nat.gcd r.num.natAbs r.den.natAbs = 1)
set_option maxRecDepth 100000 in
set_option maxHeartbeats 1000000 in
theorem ratioValid_any (r : KRatio) (w : World) : Calls Tryz.prog 94 #[.agg #[.int .i64 r.num, .int .i64 r.den]] w (RetB (.bool r.ok) w) := by
 obtain ⟨n, d⟩ := r
 simp only
 generalize hE : KRatio.ok ⟨n, d⟩ = E
 by_cases h1 : d < 1
 · obtain rfl : E = false := by rw [← hE]; simp [KRatio.ok]; omega
   clear hE
   go_enter Tryz.func94, Tryz.ntmps94
   go_wp2
   go_ret
   exact ⟨rfl, (Below.refl _ _).alloc (Nat.le_refl _) _⟩
 by_cases h2 : 1000000 < d
 · obtain rfl : E = false := by rw [← hE]; simp [KRatio.ok]; omega
   clear hE
   go_enter Tryz.func94, Tryz.ntmps94
   go_wp2
   go_ret
   exact ⟨rfl, (Below.refl _ _).alloc (Nat.le_refl _) _⟩
 by_cases h3 : n < -1000000000000
 · obtain rfl : E = false := by rw [← hE]; simp [KRatio.ok]; omega
   clear hE
   go_enter Tryz.func94, Tryz.ntmps94
   go_wp2
   go_ret
   exact ⟨rfl, (Below.refl _ _).alloc (Nat.le_refl _) _⟩
 by_cases h4 : 1000000000000 < n
 · obtain rfl : E = false := by rw [← hE]; simp [KRatio.ok]; omega
   clear hE
   have d4 : decide (1000000000000 < n) = true := by simpa using h4
   go_enter Tryz.func94, Tryz.ntmps94
   go_wp2
   go_ret
   exact ⟨rfl, (Below.refl _ _).alloc (Nat.le_refl _) _⟩
 have d4 : decide (1000000000000 < n) = false := by simpa using h4
 have HE : Hid (E = decide (Nat.gcd n.natAbs d.natAbs = 1)) := by
  show _ = _
  have q1 : 1 ≤ d := by omega
  have q2 : d ≤ 1000000 := by omega
  have q3 : -1000000000000 ≤ n := by omega
  have q4 : n ≤ 1000000000000 := by omega
  rw [← hE]
  simp [KRatio.ok, q1, q2, q3, q4]
 clear hE
 have c1 : ∀ W, Calls Tryz.prog 113 #[.int .i64 n] W (Ret (.int .u64 (n.natAbs : Int)) W) := fun W => magnitude_any n W (by omega) (by omega)
 have c2 : ∀ W, Calls Tryz.prog 113 #[.int .i64 d] W (Ret (.int .u64 (d.natAbs : Int)) W) := fun W => magnitude_any d W (by omega) (by omega)
 have C1 := Lib.hid c1; clear c1
 have C2 := Lib.hid c2; clear c2
 generalize hN : n.natAbs = N at *
 generalize hD : d.natAbs = D at *
 have bN : N < 18446744073709551616 := by omega
 have bD : D < 18446744073709551616 := by omega
 clear hN hD
 have c3 : ∀ W : World, Calls Tryz.prog 112 #[.slice (some ⟨W.heap.size, 0, none⟩) 2 2] (W.alloc (.cells #[.int .u64 (N : Int), .int .u64 (D : Int)] 158)).drew (RetB (.int .u64 (Nat.gcd N D : Int)) (W.alloc (.cells #[.int .u64 (N : Int), .int .u64 (D : Int)] 158)).drew) := fun W => by
  have h := divisor_any (some ⟨W.heap.size, 0, none⟩) 2 [N, D] (W.alloc (.cells #[.int .u64 (N : Int), .int .u64 (D : Int)] 158)).drew (by simp; omega) (by simp) ⟨rfl, by simp [u64s, Value.oneCell'], fun _ => ⟨_, rfl, fun j u hu => by
   rw [Addr.add_lit, Nat.zero_add]
   show (W.alloc (.cells #[.int .u64 (N : Int), .int .u64 (D : Int)] 158)).cell? _ = _
   rw [cell_of_row _ _ j _ _ _ (heap_alloc_new W _)]
   simpa [u64s] using hu⟩⟩
  simpa [Nat.gcd_zero_left] using h
 have C3 := Lib.hid c3; clear c3
 go_enter Tryz.func94, Tryz.ntmps94
 go_wp2
 obtain ⟨W, HW⟩ : ∃ W, Hid (W = w.alloc (.cells #[.int .i64 n, .int .i64 d] 83)) := ⟨_, rfl⟩
 have k0 : W.cell? ⟨w.heap.size, 0, none⟩ = some (.int .i64 n) := by rw [HW.out]; go_simp
 have k1 : W.cell? ⟨w.heap.size, 1, none⟩ = some (.int .i64 d) := by rw [HW.out]; go_simp
 have HB : Hid (Below w.heap.size w W) := by show Below _ _ _; rw [HW.out]; exact (Below.refl _ _).alloc (Nat.le_refl _) _
 have HZ : Hid (W.heap.size = w.heap.size + 1) := by show _ = _; rw [HW.out]; simp
 have SK : Hid (∀ X, Below W.heap.size W X → X.cell? ⟨w.heap.size, 0, none⟩ = some (.int .i64 n) ∧ X.cell? ⟨w.heap.size, 1, none⟩ = some (.int .i64 d)) := fun X hX => ⟨(hX.cell (p := ⟨w.heap.size, 0, none⟩) (by show w.heap.size < _; rw [HZ.out]; omega)).trans k0, (hX.cell (p := ⟨w.heap.size, 1, none⟩) (by show w.heap.size < _; rw [HZ.out]; omega)).trans k1⟩
 rw [← HW.out]
 go_region_held3 (fun X => X.cell? ⟨w.heap.size, 0, none⟩ = some (.int .i64 n) ∧ X.cell? ⟨w.heap.size, 1, none⟩ = some (.int .i64 d)) (first | exact ⟨k0, k1⟩ | exact SK.out _ HZ3.out | go_keep) (first
  | (go_at_call_of 113 (Value.int IntKind.i64 n); refine (C1.out _).mono ?_; rintro e z1 ⟨rfl, rfl⟩)
  | (go_at_call_of 113 (Value.int IntKind.i64 d); refine (C2.out _).mono ?_; rintro e z2 ⟨rfl, rfl⟩)
  | (go_at_call 112; refine (C3.out _).mono ?_; rintro e z3 ⟨rfl, hz3⟩; have HZ3 : Hid (Below W.heap.size W z3) := (((Below.refl _ W).alloc (Nat.le_refl _) _).drew).trans (hz3.mono (by simp)); clear hz3))
 all_goals
  go_wp2
  go_ret
  refine ⟨ret_bool ?_, HB.out.trans (HZ3.out.mono HB.out.size)⟩
  rw [HE.out, Bool.eq_iff_iff, beq_iff_eq, decide_eq_true_iff]
  omega
end Go.Proofs.YtahhdjeclbagnaaGreatDoor
namespace Go.Proofs.YtahhdjeclbagnaaGreatDoor
open Go.RowKit
def KCon.role (C : KCon) (r : Int) : Bool := decide (0 ≤ r) && decide (r < C.holders.length)
def KRatio.zero (r : KRatio) : Bool := (r.num == 0) && (r.den == 1)
def KRatio.plus (r : KRatio) : Bool := decide (0 < r.num) && r.ok
def KCon.actAt (C : KCon) (i : Int) : Option KAct := if 0 ≤ i then C.acts[i.toNat]? else none
def KCon.natural (C : KCon) (i : Int) : Bool :=
 match C.actAt i with
 | none => false
 | some a => (a.kind == 1) && (a.role == -1)
theorem none_any (w : World) : Calls Tryz.prog 70 #[] w (RetB (.agg #[.int .i64 0, .int .i64 1]) w) := by
 go_enter Tryz.func70, Tryz.ntmps70
 go_wp2
 exact bodyPost_ret (v := .agg #[.int .i64 0, .int .i64 1]) (by simp [results, Tryz.results70, go_sem]) rfl ⟨rfl, (Below.refl _ _).alloc (Nat.le_refl _) _⟩
set_option maxRecDepth 100000 in
set_option maxHeartbeats 1000000 in
theorem movable_any (v : CV) (C : KCon) (r : Int) (w : World) : Calls Tryz.prog 72 #[v.val C, .int .i64 r] w (RetB (.bool (C.role r)) w) := by
 unfold CV.val CV.cells
 generalize hE : C.role r = E
 cases h1 : decide (0 ≤ r) with
 | false =>
  obtain rfl : E = false := by rw [← hE]; simp [KCon.role, h1]
  clear hE
  go_enter Tryz.func72, Tryz.ntmps72
  go_wp2
  go_ret
  exact ⟨rfl, (Below.refl _ _).alloc (Nat.le_refl _) _⟩
 | true =>
  cases h2 : decide (r < (C.holders.length : Int)) with
  | false =>
   obtain rfl : E = false := by rw [← hE]; simp [KCon.role, h2]
   clear hE
   go_enter Tryz.func72, Tryz.ntmps72
   go_wp2
   go_ret
   exact ⟨rfl, (Below.refl _ _).alloc (Nat.le_refl _) _⟩
  | true =>
   obtain rfl : E = true := by rw [← hE]; simp [KCon.role, h1, h2]
   clear hE
   go_enter Tryz.func72, Tryz.ntmps72
   go_wp2
   go_ret
   exact ⟨rfl, (Below.refl _ _).alloc (Nat.le_refl _) _⟩
set_option maxRecDepth 100000 in
set_option maxHeartbeats 1000000 in
theorem positive_any (r : KRatio) (w : World) : Calls Tryz.prog 71 #[.agg #[.int .i64 r.num, .int .i64 r.den]] w (RetB (.bool r.plus) w) := by
 obtain ⟨n, d⟩ := r
 simp only
 generalize hE : KRatio.plus ⟨n, d⟩ = E
 have hc : ∀ W, Calls Tryz.prog 94 #[.agg #[.int .i64 n, .int .i64 d]] W (RetB (.bool (KRatio.ok ⟨n, d⟩)) W) := fun W => ratioValid_any ⟨n, d⟩ W
 have HC := Lib.hid hc; clear hc
 cases h1 : decide (0 < n) with
 | false =>
  obtain rfl : E = false := by rw [← hE]; simp [KRatio.plus, h1]
  clear hE
  go_enter Tryz.func71, Tryz.ntmps71
  go_wp2
  go_ret
  exact ⟨rfl, (Below.refl _ _).alloc (Nat.le_refl _) _⟩
 | true =>
  obtain rfl : E = KRatio.ok ⟨n, d⟩ := by rw [← hE]; simp [KRatio.plus, h1]
  clear hE
  go_enter Tryz.func71, Tryz.ntmps71
  go_wp2_with (go_at_call 94; refine (HC.out _).mono ?_; rintro e z1 ⟨rfl, hz1⟩)
  go_ret
  exact ⟨rfl, Below.step ((Below.refl _ _).alloc (Nat.le_refl _) _) hz1⟩
theorem ConAt.act {w : World} {v : CV} {C : KCon} (h : ConAt w v C) {i : Nat} {a : KAct} (ha : C.acts[i]? = some a) :
 ∃ b off, v.a.A = some ⟨b, off, none⟩ ∧ b < w.heap.size ∧ ∀ W, Below w.heap.size w W → ∀ j, j < 7 → W.cell? ⟨b, off + i * 7 + j, none⟩ = a.cells[j]? := by
 have hi : i < C.acts.length := (List.getElem?_eq_some_iff.1 ha).1
 obtain ⟨b, off, hA, hb, hc⟩ := h.acts.1.form (by omega) (by omega)
 refine ⟨b, off, hA, hb, fun W hW j hj => ?_⟩
 rw [hW.cell (p := ⟨b, off + i * 7 + j, none⟩) hb, Nat.add_assoc, hc _ (by omega)]
 exact get_flat _ 7 (fun _ => rfl) C.acts i j a ha hj
set_option maxRecDepth 100000 in
set_option maxHeartbeats 1000000 in
theorem natural_any (v : CV) (C : KCon) (i : Int) (w : World) (hC : ConAt w v C) : Calls Tryz.prog 69 #[v.val C, .int .i64 i] w (RetB (.bool (C.natural i)) w) := by
 unfold CV.val CV.cells
 generalize hE : C.natural i = E
 have HC := Lib.hid hC; clear hC
 by_cases h0 : 0 ≤ i
 · obtain ⟨n, rfl⟩ := Int.eq_ofNat_of_zero_le h0
   by_cases h1 : n < C.acts.length
   · obtain ⟨a, ha⟩ : ∃ a, C.acts[n]? = some a := ⟨C.acts[n], List.getElem?_eq_getElem h1⟩
     obtain ⟨b, off, hA, hb, hc⟩ := HC.out.act ha
     obtain ⟨vh, vu, ⟨vaA, vac⟩, vk, vo⟩ := v
     simp only at hA
     subst hA
     have k0 : w.cell? ⟨b, off + n * 7, none⟩ = some (.int .i64 a.kind) := hc w (Below.refl _ _) 0 (by omega)
     have k1 : w.cell? ⟨b, off + n * 7 + 1, none⟩ = some (.int .i64 a.role) := hc w (Below.refl _ _) 1 (by omega)
     clear hc
     have hEE : E = ((a.kind == 1) && (a.role == -1)) := by rw [← hE]; simp [KCon.natural, KCon.actAt, ha]
     clear hE
     have HA := Lib.hid ha; clear ha
     have i1 : (n : Int) < (C.acts.length : Int) := by omega
     cases q1 : (a.kind == 1) with
     | false =>
      obtain rfl : E = false := by rw [hEE]; simp [q1]
      clear hEE
      go_enter Tryz.func69, Tryz.ntmps69
      go_wp2
      go_ret
      exact ⟨rfl, (Below.refl _ _).alloc (Nat.le_refl _) _⟩
     | true =>
      obtain rfl : E = (a.role == -1) := by rw [hEE]; simp [q1]
      clear hEE
      go_enter Tryz.func69, Tryz.ntmps69
      go_wp2
      go_ret
      exact ⟨rfl, (Below.refl _ _).alloc (Nat.le_refl _) _⟩
   · obtain rfl : E = false := by
      rw [← hE]
      have : C.acts[n]? = none := List.getElem?_eq_none (by omega)
      simp [KCon.natural, KCon.actAt, this]
     clear hE
     have d1 : decide ((n : Int) < (C.acts.length : Int)) = false := by simp; omega
     go_enter Tryz.func69, Tryz.ntmps69
     go_wp2
     go_ret
     exact ⟨rfl, (Below.refl _ _).alloc (Nat.le_refl _) _⟩
 · obtain rfl : E = false := by rw [← hE]; simp [KCon.natural, KCon.actAt, h0]
   clear hE
   have d1 : decide (0 ≤ i) = false := by simpa using h0
   go_enter Tryz.func69, Tryz.ntmps69
   go_wp2
   go_ret
   exact ⟨rfl, (Below.refl _ _).alloc (Nat.le_refl _) _⟩
end Go.Proofs.YtahhdjeclbagnaaGreatDoor
