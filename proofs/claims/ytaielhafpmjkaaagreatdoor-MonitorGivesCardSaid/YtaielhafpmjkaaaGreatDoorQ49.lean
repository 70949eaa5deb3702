/-
  RefA
-/
import Derived.Test.YtaielhafpmjkaaaGreatDoorQ08
import Derived.Deep.DeepCutAuto
import Derived.Deep.LoopGhost
namespace Go.Proofs.YtaielhafpmjkaaaGreatDoor
open Go.RowKit
theorem cd_self (a : Bool) : a = cond a true false := by cases a <;> rfl
theorem cds : (∀ {α : Type} (a b : Bool) (x y : α), cond (a && b) x y = cond a (cond b x y) y) ∧ (∀ {α : Type} (a b : Bool) (x y : α), cond (a || b) x y = cond a x (cond b x y)) ∧ (∀ {α : Type} (a : Bool) (x y : α), cond (!a) x y = cond a y x) ∧ (∀ {α : Type} (a b c : Bool) (x y : α), cond (cond a b c) x y = cond a (cond b x y) (cond c x y)) ∧ (∀ {α : Type} (x y : α), cond true x y = x) ∧ (∀ {α : Type} (x y : α), cond false x y = y) := by
 refine ⟨?_, ?_, ?_, ?_, ?_, ?_⟩
 all_goals
  intro α
  intros
  first
   | rfl
   | (rename_i a b x y; cases a <;> rfl)
   | (rename_i a x y; cases a <;> rfl)
   | (rename_i a b c x y; cases a <;> rfl)
theorem cd_eq {α : Type} {x y : Int} {A B E : α} (h : cond (x == y) A B = E) : ((x == y) = true ∧ (x != y) = false ∧ A = E) ∨ ((x == y) = false ∧ (x != y) = true ∧ B = E) := by
 cases q : (x == y) <;> rw [q] at h
 · exact .inr ⟨rfl, by simp [bne, q], h⟩
 · exact .inl ⟨rfl, by simp [bne, q], h⟩
theorem cd_t {α : Type} {a : Bool} {A B E : α} (h : cond a A B = E) (e : a = true) : A = E := by subst e; exact h
theorem cd_f {α : Type} {a : Bool} {A B E : α} (h : cond a A B = E) (e : a = false) : B = E := by subst e; exact h
theorem cd_any {α : Type} {a : Bool} {A B E : α} (h : cond a A B = E) : (a = true ∧ A = E) ∨ (a = false ∧ B = E) := by cases a <;> simp_all
theorem lit {f : FuncId} {a : Array Value} {w : World} {b c : Bool} (h : Calls Tryz.prog f a w (RetB (.bool b) w)) (e : b = c) : Calls Tryz.prog f a w (RetB (.bool c) w) := e ▸ h
set_option maxHeartbeats 1000000 in
theorem rgcd_any (a b : Nat) (w : World) (ha : a < 18446744073709551616) (hb : b < 18446744073709551616) : Calls Tryz.prog 157 #[.int .u64 (a : Int), .int .u64 (b : Int)] w (RetB (.int .u64 (Nat.gcd a b : Int)) w) := by
 go_enter Tryz.func157, Tryz.ntmps157
 go_wp2
 go_loopg [0, 1] b (fun gk v0 v1 wr => ∃ (g n nq : Nat), gk = n ∧ v0 = .int .u64 (g : Int) ∧ v1 = .int .u64 (n : Int) ∧ g < 18446744073709551616 ∧ n < 18446744073709551616 ∧ Hid (Nat.gcd g n = Nat.gcd a b) ∧ wr = w.drewN nq)
 case atStart => exact ⟨a, b, 0, rfl, rfl, rfl, ha, hb, rfl, rfl⟩
 case round =>
  obtain ⟨g, n, nq, hgk, rfl, rfl, hg, hn, HGC, rfl⟩ := hrel
  have HGK := Lib.hid hgk; clear hgk
  by_cases h0 : n = 0
  · subst h0
    go_wp2
    go_ret
    exact ⟨ret_int (by rw [← HGC.out, Nat.gcd_zero_right]), below_drewN _ _⟩
  · have hne : decide ((0 : Int) < (n : Int)) = true := by simp; omega
    have hne2 : ¬ (n : Int) = 0 := by omega
    go_wp2
    go_quiet (fail)
    go_wp2
    go_roundg (g % n)
    case measure => rw [HGK.out]; exact Nat.mod_lt _ (by omega)
    case rel => exact ⟨n, g % n, _, rfl, rfl, by go_num, hn, Nat.lt_trans (Nat.mod_lt _ (by omega)) hn, by
     show _ = _
     rw [← HGC.out, Nat.gcd_comm g n, Nat.gcd_rec n g, Nat.gcd_comm], World.drewN_drewN _ _ _⟩
theorem rsize_any (n : Int) (w : World) (h1 : -1000000000000 ≤ n) (h2 : n ≤ 1000000000000) : Calls Tryz.prog 158 #[.int .i64 n] w (RetB (.int .u64 (n.natAbs : Int)) w) := by
 by_cases h : n < 0
 all_goals
  go_enter Tryz.func158, Tryz.ntmps158
  go_wp2
  go_ret
  exact ⟨ret_int (by first | omega | (simp only [IntKind.wrap_u64]; omega)), Below.refl _ _⟩
def okRB (n d : Int) : Bool := decide (1 ≤ d) && (decide (d ≤ 1000000) && (decide (-1000000000000 ≤ n) && (decide (n ≤ 1000000000000) && ((Nat.gcd n.natAbs d.natAbs : Int) == 1))))
theorem okRB_eq (n d : Int) : okRB n d = KRatio.ok ⟨n, d⟩ := by
 unfold okRB KRatio.ok
 rw [show ((Nat.gcd n.natAbs d.natAbs : Int) == 1) = decide (Nat.gcd n.natAbs d.natAbs = 1) by rw [Bool.eq_iff_iff, beq_iff_eq, decide_eq_true_iff]; omega]
 simp only [Bool.and_assoc]
set_option maxRecDepth 100000 in
set_option maxHeartbeats 4000000 in
theorem rratio_raw (n d : Int) (w : World) : Calls Tryz.prog 146 #[.agg #[.int .i64 n, .int .i64 d]] w (RetB (.bool (okRB n d)) w) := by
 rw [cd_self (okRB n d)]
 generalize hE : cond (okRB n d) true false = E
 simp only [okRB, cds] at hE
 go_enter Tryz.func146, Tryz.ntmps146
 go_upto_region 1 with (fail)
 generalize hW0 : World.alloc _ _ = W0
 obtain ⟨HB, hh0⟩ := bx1 hW0; clear hW0
 obtain ⟨k0_0, k0_1⟩ := kc2 hh0
 clear hh0
 change Code.wp _ _ _ _ (Bl.val (⟨W0, Below.refl _ _⟩ : Bl W0))
 generalize (⟨W0, Below.refl _ _⟩ : Bl W0) = s0
 repeat' (first | (replace hE := cd_t hE (by assumption)) | (replace hE := cd_f hE (by assumption)) | (replace hE := cd_eq hE; rcases hE with ⟨q, q', hE⟩ | ⟨q, q', hE⟩) | (replace hE := cd_any hE; rcases hE with ⟨q, hE⟩ | ⟨q, hE⟩) | fail)
 all_goals
  subst hE
  go_wp2
  refine wp_region_bl (by kernel_rfl) (by kernel_rfl) ?_
  try (
   have HS1 := Lib.hid (fun z : Bl W0 => rsize_any n z.val (of_decide_eq_true (by assumption)) (of_decide_eq_true (by assumption)))
   have HS2 := Lib.hid (fun z : Bl W0 => rsize_any d z.val (Int.le_trans (by omega) (of_decide_eq_true (by assumption : decide (1 ≤ d) = true))) (Int.le_trans (of_decide_eq_true (by assumption : decide (d ≤ 1000000) = true)) (by omega)))
   have b1 : n.natAbs < 18446744073709551616 := by have h1 := of_decide_eq_true (by assumption : decide (-1000000000000 ≤ n) = true); have h2 := of_decide_eq_true (by assumption : decide (n ≤ 1000000000000) = true); omega
   have b2 : d.natAbs < 18446744073709551616 := by have h1 := of_decide_eq_true (by assumption : decide (1 ≤ d) = true); have h2 := of_decide_eq_true (by assumption : decide (d ≤ 1000000) = true); omega
   have HG := Lib.hid (fun z : Bl W0 => rgcd_any n.natAbs d.natAbs z.val b1 b2)
   clear b1 b2)
  repeat (go_big_quiet_step (first | (go_at_call_of 158 (Value.int IntKind.i64 n); exact Calls.bl_of (HS1.out _)) | (go_at_call_of 158 (Value.int IntKind.i64 d); exact Calls.bl_of (HS2.out _)) | (go_at_call 157; exact Calls.bl_of (HG.out _))))
  refine wpQuiet_nil ?_
  rintro _ ⟨zq, rfl⟩
  go_wp2
  go_ret
  exact ⟨rfl, Below.step HB.out (Bl.prop _)⟩
theorem rratio_any (n d : Int) (w : World) : Calls Tryz.prog 146 #[.agg #[.int .i64 n, .int .i64 d]] w (RetB (.bool (KRatio.ok ⟨n, d⟩)) w) := by
 rw [← okRB_eq]; exact rratio_raw n d w
set_option maxRecDepth 100000 in
set_option maxHeartbeats 4000000 in
theorem rrole_any (v : CV) (C : KCon) (r : Int) (w : World) : Calls Tryz.prog 123 #[v.val C, .int .i64 r] w (RetB (.bool (C.role r)) w) := by
 obtain ⟨⟨vhA, vhc⟩, ⟨vuA, vuc⟩, ⟨vaA, vac⟩, ⟨vkA, vkc⟩, ⟨voA, voc⟩⟩ := v
 simp only [CV.val, CV.cells]
 rw [cd_self (C.role r)]
 generalize hE : cond (C.role r) true false = E
 simp only [KCon.role, cds] at hE
 go_enter Tryz.func123, Tryz.ntmps123
 go_upto_region 1 with (fail)
 generalize hW0 : World.alloc _ _ = W0
 obtain ⟨HB, hh0⟩ := bx1 hW0; clear hW0
 obtain ⟨k0_0, k0_1, k0_2, k0_3, k0_4, k0_5, k0_6⟩ := kc7 hh0
 clear hh0
 change Code.wp _ _ _ _ (Bl.val (⟨W0, Below.refl _ _⟩ : Bl W0))
 generalize (⟨W0, Below.refl _ _⟩ : Bl W0) = s0
 repeat' (first | (replace hE := cd_t hE (by assumption)) | (replace hE := cd_f hE (by assumption)) | (replace hE := cd_eq hE; rcases hE with ⟨q, q', hE⟩ | ⟨q, q', hE⟩) | (replace hE := cd_any hE; rcases hE with ⟨q, hE⟩ | ⟨q, hE⟩) | fail)
 all_goals
  subst hE
  go_wp2_with (first | fail)
  first
   | (go_ret; exact ⟨rfl, Below.step HB.out (Bl.prop _)⟩)
   | (refine wp_region_bl (by kernel_rfl) (by kernel_rfl) ?_; (repeat (go_big_quiet_step (first | fail))); refine wpQuiet_nil ?_; rintro _ ⟨zq, rfl⟩; go_wp2_with (first | fail); go_ret; exact ⟨rfl, Below.step HB.out (Bl.prop _)⟩)
set_option maxRecDepth 100000 in
set_option maxHeartbeats 4000000 in
theorem rparty_any (v : CV) (C : KCon) (r : Int) (w : World) : Calls Tryz.prog 41 #[v.val C, .int .i64 r] w (RetB (.bool (C.party r)) w) := by
 obtain ⟨⟨vhA, vhc⟩, ⟨vuA, vuc⟩, ⟨vaA, vac⟩, ⟨vkA, vkc⟩, ⟨voA, voc⟩⟩ := v
 simp only [CV.val, CV.cells]
 rw [cd_self (C.party r)]
 generalize hE : cond (C.party r) true false = E
 simp only [KCon.party, cds] at hE
 go_enter Tryz.func41, Tryz.ntmps41
 go_upto_region 1 with (fail)
 generalize hW0 : World.alloc _ _ = W0
 obtain ⟨HB, hh0⟩ := bx1 hW0; clear hW0
 obtain ⟨k0_0, k0_1, k0_2, k0_3, k0_4, k0_5, k0_6⟩ := kc7 hh0
 clear hh0
 change Code.wp _ _ _ _ (Bl.val (⟨W0, Below.refl _ _⟩ : Bl W0))
 generalize (⟨W0, Below.refl _ _⟩ : Bl W0) = s0
 repeat' (first | (replace hE := cd_t hE (by assumption)) | (replace hE := cd_f hE (by assumption)) | (replace hE := cd_eq hE; rcases hE with ⟨q, q', hE⟩ | ⟨q, q', hE⟩) | (replace hE := cd_any hE; rcases hE with ⟨q, hE⟩ | ⟨q, hE⟩) | fail)
 all_goals
  subst hE
  go_wp2_with (first | fail)
  first
   | (go_ret; exact ⟨rfl, Below.step HB.out (Bl.prop _)⟩)
   | (refine wp_region_bl (by kernel_rfl) (by kernel_rfl) ?_; (repeat (go_big_quiet_step (first | fail))); refine wpQuiet_nil ?_; rintro _ ⟨zq, rfl⟩; go_wp2_with (first | fail); go_ret; exact ⟨rfl, Below.step HB.out (Bl.prop _)⟩)
set_option maxRecDepth 100000 in
set_option maxHeartbeats 4000000 in
theorem rzero_any (n d : Int) (w : World) : Calls Tryz.prog 125 #[.agg #[.int .i64 n, .int .i64 d]] w (RetB (.bool (KRatio.zero ⟨n, d⟩)) w) := by
 rw [cd_self (KRatio.zero ⟨n, d⟩)]
 generalize hE : cond (KRatio.zero ⟨n, d⟩) true false = E
 simp only [KRatio.zero, cds] at hE
 go_enter Tryz.func125, Tryz.ntmps125
 go_upto_region 1 with (fail)
 generalize hW0 : World.alloc _ _ = W0
 obtain ⟨HB, hh0⟩ := bx1 hW0; clear hW0
 obtain ⟨k0_0, k0_1⟩ := kc2 hh0
 clear hh0
 change Code.wp _ _ _ _ (Bl.val (⟨W0, Below.refl _ _⟩ : Bl W0))
 generalize (⟨W0, Below.refl _ _⟩ : Bl W0) = s0
 repeat' (first | (replace hE := cd_t hE (by assumption)) | (replace hE := cd_f hE (by assumption)) | (replace hE := cd_eq hE; rcases hE with ⟨q, q', hE⟩ | ⟨q, q', hE⟩) | (replace hE := cd_any hE; rcases hE with ⟨q, hE⟩ | ⟨q, hE⟩) | fail)
 all_goals
  subst hE
  go_wp2_with (first | fail)
  first
   | (go_ret; exact ⟨rfl, Below.step HB.out (Bl.prop _)⟩)
   | (refine wp_region_bl (by kernel_rfl) (by kernel_rfl) ?_; (repeat (go_big_quiet_step (first | fail))); refine wpQuiet_nil ?_; rintro _ ⟨zq, rfl⟩; go_wp2_with (first | fail); go_ret; exact ⟨rfl, Below.step HB.out (Bl.prop _)⟩)
def plusB (n d : Int) : Bool := (KRatio.ok ⟨n, d⟩) && decide (0 < n)
theorem plusB_eq (n d : Int) : plusB n d = KRatio.plus ⟨n, d⟩ := by unfold plusB KRatio.plus; rw [Bool.and_comm]
set_option maxRecDepth 100000 in
set_option maxHeartbeats 4000000 in
theorem rplus_raw (n d : Int) (w : World) : Calls Tryz.prog 126 #[.agg #[.int .i64 n, .int .i64 d]] w (RetB (.bool (plusB n d)) w) := by
 have HR := Lib.hid (fun W : World => rratio_any n d W)
 rw [cd_self (plusB n d)]
 generalize hE : cond (plusB n d) true false = E
 simp only [plusB, cds] at hE
 go_enter Tryz.func126, Tryz.ntmps126
 go_upto_region 1 with (fail)
 generalize hW0 : World.alloc _ _ = W0
 obtain ⟨HB, hh0⟩ := bx1 hW0; clear hW0
 obtain ⟨k0_0, k0_1⟩ := kc2 hh0
 clear hh0
 change Code.wp _ _ _ _ (Bl.val (⟨W0, Below.refl _ _⟩ : Bl W0))
 generalize (⟨W0, Below.refl _ _⟩ : Bl W0) = s0
 repeat' (first | (replace hE := cd_t hE (by assumption)) | (replace hE := cd_f hE (by assumption)) | (replace hE := cd_eq hE; rcases hE with ⟨q, q', hE⟩ | ⟨q, q', hE⟩) | (replace hE := cd_any hE; rcases hE with ⟨q, hE⟩ | ⟨q, hE⟩) | fail)
 all_goals
  subst hE
  go_wp2_with (first | (go_at_call 146; refine (lit (HR.out _) (by assumption)).mono ?_; rintro e z ⟨rfl, hz⟩; obtain ⟨z, rfl⟩ := Bl.on hz; clear hz) | (go_at_call 146; refine (HR.out _).mono ?_; rintro e z ⟨rfl, hz⟩; obtain ⟨z, rfl⟩ := Bl.on hz; clear hz))
  first
   | (go_ret; exact ⟨rfl, Below.step HB.out (Bl.prop _)⟩)
   | (refine wp_region_bl (by kernel_rfl) (by kernel_rfl) ?_; (repeat (go_big_quiet_step (first | (go_at_call 146; exact Calls.bl_of (lit (HR.out _) (by assumption))) | (go_at_call 146; exact Calls.bl_of (HR.out _))))); refine wpQuiet_nil ?_; rintro _ ⟨zq, rfl⟩; go_wp2_with (first | (go_at_call 146; refine (lit (HR.out _) (by assumption)).mono ?_; rintro e z ⟨rfl, hz⟩; obtain ⟨z, rfl⟩ := Bl.on hz; clear hz) | (go_at_call 146; refine (HR.out _).mono ?_; rintro e z ⟨rfl, hz⟩; obtain ⟨z, rfl⟩ := Bl.on hz; clear hz)); go_ret; exact ⟨rfl, Below.step HB.out (Bl.prop _)⟩)
theorem rplus_any (n d : Int) (w : World) : Calls Tryz.prog 126 #[.agg #[.int .i64 n, .int .i64 d]] w (RetB (.bool (KRatio.plus ⟨n, d⟩)) w) := by
 rw [← plusB_eq]; exact rplus_raw n d w
def asgB2 (ki : Int) : Bool := (ki == 2) || (ki == 3)
set_option maxRecDepth 100000 in
set_option maxHeartbeats 4000000 in
theorem rassigns_any (ki ro gi tg un ln ld : Int) (w : World) : Calls Tryz.prog 31 #[.agg #[.int .i64 ki, .int .i64 ro, .int .i64 gi, .int .i64 tg, .int .i64 un, .int .i64 ln, .int .i64 ld]] w (RetB (.bool (asgB2 ki)) w) := by
 rw [cd_self (asgB2 ki)]
 generalize hE : cond (asgB2 ki) true false = E
 simp only [asgB2, cds] at hE
 go_enter Tryz.func31, Tryz.ntmps31
 go_upto_region 1 with (fail)
 generalize hW0 : World.alloc _ _ = W0
 obtain ⟨HB, hh0⟩ := bx1 hW0; clear hW0
 obtain ⟨k0_0, k0_1, k0_2, k0_3, k0_4, k0_5, k0_6⟩ := kc7 hh0
 clear hh0
 change Code.wp _ _ _ _ (Bl.val (⟨W0, Below.refl _ _⟩ : Bl W0))
 generalize (⟨W0, Below.refl _ _⟩ : Bl W0) = s0
 repeat' (first | (replace hE := cd_t hE (by assumption)) | (replace hE := cd_f hE (by assumption)) | (replace hE := cd_eq hE; rcases hE with ⟨q, q', hE⟩ | ⟨q, q', hE⟩) | (replace hE := cd_any hE; rcases hE with ⟨q, hE⟩ | ⟨q, hE⟩) | fail)
 all_goals
  subst hE
  go_wp2_with (first | fail)
  first
   | (go_ret; exact ⟨rfl, Below.step HB.out (Bl.prop _)⟩)
   | (refine wp_region_bl (by kernel_rfl) (by kernel_rfl) ?_; (repeat (go_big_quiet_step (first | fail))); refine wpQuiet_nil ?_; rintro _ ⟨zq, rfl⟩; go_wp2_with (first | fail); go_ret; exact ⟨rfl, Below.step HB.out (Bl.prop _)⟩)
def okActR (C : KCon) (ki ro gi tg un ln ld : Int) : Bool := cond (asgB2 ki) (C.role ro && (C.role gi && (C.party tg && ((un == -1) && KRatio.zero ⟨ln, ld⟩)))) (cond ((!(ki == 1)) || ((!(gi == 0)) || (((!(ro == -1)) && (!C.role ro)) || ((!(tg == -1)) && (!C.role tg))))) false (cond (un == -1) (KRatio.zero ⟨ln, ld⟩) (decide (0 ≤ un) && (decide (un < (C.units.length : Int)) && (KRatio.plus ⟨ln, ld⟩ && (!(ro == -1)))))))
theorem okActR_eq (C : KCon) (ki ro gi tg un ln ld : Int) : okActR C ki ro gi tg un ln ld = okActB C ki ro gi tg un ln ld := by
 have h1 : C.role (-1) = false := rfl
 unfold okActR okActB asgB2 KCon.party
 by_cases e1 : ki = 1
 · subst e1
   by_cases e2 : ro = -1
   · subst e2
     rw [h1]
     cases gi == 0 <;> cases tg == -1 <;> cases C.role tg <;> cases un == -1 <;> cases decide (0 ≤ un) <;> cases decide (un < (C.units.length : Int)) <;> cases KRatio.zero ⟨ln, ld⟩ <;> cases KRatio.plus ⟨ln, ld⟩ <;> rfl
   · have e3 : (ro == -1) = false := by rw [beq_eq_false_iff_ne]; exact e2
     rw [e3]
     cases C.role ro <;> cases gi == 0 <;> cases tg == -1 <;> cases C.role tg <;> cases un == -1 <;> cases decide (0 ≤ un) <;> cases decide (un < (C.units.length : Int)) <;> cases KRatio.zero ⟨ln, ld⟩ <;> cases KRatio.plus ⟨ln, ld⟩ <;> rfl
 · have e3 : (ki == 1) = false := by rw [beq_eq_false_iff_ne]; exact e1
   rw [e3]
   cases ki == 2 <;> cases ki == 3 <;> cases C.role ro <;> cases C.role gi <;> cases decide (0 ≤ tg) <;> cases decide (tg < C.parties) <;> cases un == -1 <;> cases KRatio.zero ⟨ln, ld⟩ <;> rfl
set_option maxRecDepth 100000 in
set_option maxHeartbeats 4000000 in
theorem ract_raw (v : CV) (C : KCon) (ki ro gi tg un ln ld : Int) (w : World) : Calls Tryz.prog 121 #[v.val C, .agg #[.int .i64 ki, .int .i64 ro, .int .i64 gi, .int .i64 tg, .int .i64 un, .int .i64 ln, .int .i64 ld]] w (RetB (.bool (okActR C ki ro gi tg un ln ld)) w) := by
 obtain ⟨⟨vhA, vhc⟩, ⟨vuA, vuc⟩, ⟨vaA, vac⟩, ⟨vkA, vkc⟩, ⟨voA, voc⟩⟩ := v
 simp only [CV.val, CV.cells]
 have HRO := Lib.hid (fun (r : Int) (W : World) => rrole_any (⟨⟨vhA, vhc⟩, ⟨vuA, vuc⟩, ⟨vaA, vac⟩, ⟨vkA, vkc⟩, ⟨voA, voc⟩⟩ : CV) C r W)
 simp only [CV.val, CV.cells] at HRO
 have HPA := Lib.hid (fun (r : Int) (W : World) => rparty_any (⟨⟨vhA, vhc⟩, ⟨vuA, vuc⟩, ⟨vaA, vac⟩, ⟨vkA, vkc⟩, ⟨voA, voc⟩⟩ : CV) C r W)
 simp only [CV.val, CV.cells] at HPA
 rw [cd_self (okActR C ki ro gi tg un ln ld)]
 generalize hE : cond (okActR C ki ro gi tg un ln ld) true false = E
 simp only [okActR, cds] at hE
 go_enter Tryz.func121, Tryz.ntmps121
 go_upto_region 1 with (fail)
 generalize hW0 : World.alloc _ _ = W0
 obtain ⟨HB, hh0, hh1⟩ := bx2 hW0; clear hW0
 obtain ⟨k0_0, k0_1, k0_2, k0_3, k0_4, k0_5, k0_6⟩ := kc7 hh0
 clear hh0
 obtain ⟨k1_0, k1_1, k1_2, k1_3, k1_4, k1_5, k1_6⟩ := kc7 hh1
 clear hh1
 change Code.wp _ _ _ _ (Bl.val (⟨W0, Below.refl _ _⟩ : Bl W0))
 generalize (⟨W0, Below.refl _ _⟩ : Bl W0) = s0
 repeat' (first | (replace hE := cd_t hE (by assumption)) | (replace hE := cd_f hE (by assumption)) | (replace hE := cd_eq hE; rcases hE with ⟨q, q', hE⟩ | ⟨q, q', hE⟩) | (replace hE := cd_any hE; rcases hE with ⟨q, hE⟩ | ⟨q, hE⟩) | fail)
 all_goals
  subst hE
  go_wp2_with (first | (go_at_call 31; refine (lit (rassigns_any _ _ _ _ _ _ _ _) (by assumption)).mono ?_; rintro e z ⟨rfl, hz⟩; obtain ⟨z, rfl⟩ := Bl.on hz; clear hz) | (go_at_call 31; refine (rassigns_any _ _ _ _ _ _ _ _).mono ?_; rintro e z ⟨rfl, hz⟩; obtain ⟨z, rfl⟩ := Bl.on hz; clear hz) | (go_at_call 123; refine (lit (HRO.out _ _) (by assumption)).mono ?_; rintro e z ⟨rfl, hz⟩; obtain ⟨z, rfl⟩ := Bl.on hz; clear hz) | (go_at_call 123; refine (HRO.out _ _).mono ?_; rintro e z ⟨rfl, hz⟩; obtain ⟨z, rfl⟩ := Bl.on hz; clear hz) | (go_at_call 41; refine (lit (HPA.out _ _) (by assumption)).mono ?_; rintro e z ⟨rfl, hz⟩; obtain ⟨z, rfl⟩ := Bl.on hz; clear hz) | (go_at_call 41; refine (HPA.out _ _).mono ?_; rintro e z ⟨rfl, hz⟩; obtain ⟨z, rfl⟩ := Bl.on hz; clear hz) | (go_at_call 125; refine (lit (rzero_any _ _ _) (by assumption)).mono ?_; rintro e z ⟨rfl, hz⟩; obtain ⟨z, rfl⟩ := Bl.on hz; clear hz) | (go_at_call 125; refine (rzero_any _ _ _).mono ?_; rintro e z ⟨rfl, hz⟩; obtain ⟨z, rfl⟩ := Bl.on hz; clear hz) | (go_at_call 126; refine (lit (rplus_any _ _ _) (by assumption)).mono ?_; rintro e z ⟨rfl, hz⟩; obtain ⟨z, rfl⟩ := Bl.on hz; clear hz) | (go_at_call 126; refine (rplus_any _ _ _).mono ?_; rintro e z ⟨rfl, hz⟩; obtain ⟨z, rfl⟩ := Bl.on hz; clear hz))
  first
   | (go_ret; exact ⟨rfl, Below.step HB.out (Bl.prop _)⟩)
   | (refine wp_region_bl (by kernel_rfl) (by kernel_rfl) ?_; (repeat (go_big_quiet_step (first | (go_at_call 31; exact Calls.bl_of (lit (rassigns_any _ _ _ _ _ _ _ _) (by assumption))) | (go_at_call 31; exact Calls.bl_of (rassigns_any _ _ _ _ _ _ _ _)) | (go_at_call 123; exact Calls.bl_of (lit (HRO.out _ _) (by assumption))) | (go_at_call 123; exact Calls.bl_of (HRO.out _ _)) | (go_at_call 41; exact Calls.bl_of (lit (HPA.out _ _) (by assumption))) | (go_at_call 41; exact Calls.bl_of (HPA.out _ _)) | (go_at_call 125; exact Calls.bl_of (lit (rzero_any _ _ _) (by assumption))) | (go_at_call 125; exact Calls.bl_of (rzero_any _ _ _)) | (go_at_call 126; exact Calls.bl_of (lit (rplus_any _ _ _) (by assumption))) | (go_at_call 126; exact Calls.bl_of (rplus_any _ _ _))))); refine wpQuiet_nil ?_; rintro _ ⟨zq, rfl⟩; go_wp2_with (first | (go_at_call 31; refine (lit (rassigns_any _ _ _ _ _ _ _ _) (by assumption)).mono ?_; rintro e z ⟨rfl, hz⟩; obtain ⟨z, rfl⟩ := Bl.on hz; clear hz) | (go_at_call 31; refine (rassigns_any _ _ _ _ _ _ _ _).mono ?_; rintro e z ⟨rfl, hz⟩; obtain ⟨z, rfl⟩ := Bl.on hz; clear hz) | (go_at_call 123; refine (lit (HRO.out _ _) (by assumption)).mono ?_; rintro e z ⟨rfl, hz⟩; obtain ⟨z, rfl⟩ := Bl.on hz; clear hz) | (go_at_call 123; refine (HRO.out _ _).mono ?_; rintro e z ⟨rfl, hz⟩; obtain ⟨z, rfl⟩ := Bl.on hz; clear hz) | (go_at_call 41; refine (lit (HPA.out _ _) (by assumption)).mono ?_; rintro e z ⟨rfl, hz⟩; obtain ⟨z, rfl⟩ := Bl.on hz; clear hz) | (go_at_call 41; refine (HPA.out _ _).mono ?_; rintro e z ⟨rfl, hz⟩; obtain ⟨z, rfl⟩ := Bl.on hz; clear hz) | (go_at_call 125; refine (lit (rzero_any _ _ _) (by assumption)).mono ?_; rintro e z ⟨rfl, hz⟩; obtain ⟨z, rfl⟩ := Bl.on hz; clear hz) | (go_at_call 125; refine (rzero_any _ _ _).mono ?_; rintro e z ⟨rfl, hz⟩; obtain ⟨z, rfl⟩ := Bl.on hz; clear hz) | (go_at_call 126; refine (lit (rplus_any _ _ _) (by assumption)).mono ?_; rintro e z ⟨rfl, hz⟩; obtain ⟨z, rfl⟩ := Bl.on hz; clear hz) | (go_at_call 126; refine (rplus_any _ _ _).mono ?_; rintro e z ⟨rfl, hz⟩; obtain ⟨z, rfl⟩ := Bl.on hz; clear hz)); go_ret; exact ⟨rfl, Below.step HB.out (Bl.prop _)⟩)
set_option maxRecDepth 100000 in
set_option maxHeartbeats 4000000 in
theorem ractn_any (v : CV) (C : KCon) (i : Int) (w : World) : Calls Tryz.prog 122 #[v.val C, .int .i64 i] w (RetB (.bool (decide (0 ≤ i) && decide (i < (C.acts.length : Int)))) w) := by
 obtain ⟨⟨vhA, vhc⟩, ⟨vuA, vuc⟩, ⟨vaA, vac⟩, ⟨vkA, vkc⟩, ⟨voA, voc⟩⟩ := v
 simp only [CV.val, CV.cells]
 rw [cd_self (decide (0 ≤ i) && decide (i < (C.acts.length : Int)))]
 generalize hE : cond (decide (0 ≤ i) && decide (i < (C.acts.length : Int))) true false = E
 simp only [cds] at hE
 go_enter Tryz.func122, Tryz.ntmps122
 go_upto_region 1 with (fail)
 generalize hW0 : World.alloc _ _ = W0
 obtain ⟨HB, hh0⟩ := bx1 hW0; clear hW0
 obtain ⟨k0_0, k0_1, k0_2, k0_3, k0_4, k0_5, k0_6⟩ := kc7 hh0
 clear hh0
 change Code.wp _ _ _ _ (Bl.val (⟨W0, Below.refl _ _⟩ : Bl W0))
 generalize (⟨W0, Below.refl _ _⟩ : Bl W0) = s0
 repeat' (first | (replace hE := cd_t hE (by assumption)) | (replace hE := cd_f hE (by assumption)) | (replace hE := cd_eq hE; rcases hE with ⟨q, q', hE⟩ | ⟨q, q', hE⟩) | (replace hE := cd_any hE; rcases hE with ⟨q, hE⟩ | ⟨q, hE⟩) | fail)
 all_goals
  subst hE
  go_wp2_with (first | fail)
  first
   | (go_ret; exact ⟨rfl, Below.step HB.out (Bl.prop _)⟩)
   | (refine wp_region_bl (by kernel_rfl) (by kernel_rfl) ?_; (repeat (go_big_quiet_step (first | fail))); refine wpQuiet_nil ?_; rintro _ ⟨zq, rfl⟩; go_wp2_with (first | fail); go_ret; exact ⟨rfl, Below.step HB.out (Bl.prop _)⟩)
def actnB (C : KCon) (i : Int) : Bool := decide (0 ≤ i) && decide (i < (C.acts.length : Int))
theorem natural_in {C : KCon} {n : Nat} {a : KAct} (h : C.acts[n]? = some a) : C.natural n = ((a.kind == 1) && (a.role == -1)) := by
 unfold KCon.natural KCon.actAt
 rw [if_pos (by omega), Int.toNat_natCast, h]
theorem natural_out {C : KCon} {i : Int} (h : actnB C i = false) : C.natural i = false := by
 unfold KCon.natural KCon.actAt
 unfold actnB at h
 by_cases h0 : 0 ≤ i
 · rw [if_pos h0, List.getElem?_eq_none]
   simp only [h0, decide_true, Bool.true_and, decide_eq_false_iff_not] at h
   omega
 · rw [if_neg h0]
set_option maxRecDepth 100000 in
set_option maxHeartbeats 4000000 in
theorem rnatural_in (v : CV) (C : KCon) (n : Nat) (ki ro gi tg un ln ld : Int) (w : World) (hC : ConAt w v C) (ha : C.acts[n]? = some ⟨ki, ro, gi, tg, un, ⟨ln, ld⟩⟩) : Calls Tryz.prog 124 #[v.val C, .int .i64 n] w (RetB (.bool ((ki == 1) && (ro == -1))) w) := by
 obtain ⟨b, off, hA0, hb, hc⟩ := hC.act ha
 have hn : n < C.acts.length := (List.getElem?_eq_some_iff.1 ha).1
 obtain ⟨⟨vhA, vhc⟩, ⟨vuA, vuc⟩, ⟨vaA, vac⟩, ⟨vkA, vkc⟩, ⟨voA, voc⟩⟩ := v
 simp only at hA0
 subst hA0
 simp only [CV.val, CV.cells]
 have HAN : Hid (∀ W : World, Calls Tryz.prog 122 #[.agg #[.int .i64 C.parties, .slice vhA C.holders.length vhc, .slice vuA C.units.length vuc, .slice (some ⟨b, off, none⟩) C.acts.length vac, .slice vkA C.clauses.length vkc, .int .i64 C.days, .slice voA C.off.length voc], .int .i64 n] W (RetB (.bool true) W)) := fun W => lit (ractn_any (⟨⟨vhA, vhc⟩, ⟨vuA, vuc⟩, ⟨some ⟨b, off, none⟩, vac⟩, ⟨vkA, vkc⟩, ⟨voA, voc⟩⟩ : CV) C n W) (by simp; omega)
 have n0 : (0 : Int) ≤ (n : Int) := by omega
 have n1 : (n : Int) < (C.acts.length : Int) := by omega
 clear ha hC
 rw [cd_self ((ki == 1) && (ro == -1))]
 generalize hE : cond ((ki == 1) && (ro == -1)) true false = E
 simp only [cds] at hE
 go_enter Tryz.func124, Tryz.ntmps124
 go_upto_region 1 with (fail)
 generalize hW0 : World.alloc _ _ = W0
 obtain ⟨HB, hh0⟩ := bx1 hW0; clear hW0
 obtain ⟨k0_0, k0_1, k0_2, k0_3, k0_4, k0_5, k0_6⟩ := kc7 hh0
 clear hh0
 change Code.wp _ _ _ _ (Bl.val (⟨W0, Below.refl _ _⟩ : Bl W0))
 generalize (⟨W0, Below.refl _ _⟩ : Bl W0) = s0
 obtain ⟨c0, c1, c2, c3, c4, c5, c6⟩ := rz7 (fun z hz => hc z (Below.step HB.out hz)) rfl
 clear hc
 repeat' (first | (replace hE := cd_t hE (by assumption)) | (replace hE := cd_f hE (by assumption)) | (replace hE := cd_eq hE; rcases hE with ⟨q, q', hE⟩ | ⟨q, q', hE⟩) | (replace hE := cd_any hE; rcases hE with ⟨q, hE⟩ | ⟨q, hE⟩) | fail)
 all_goals
  subst hE
  go_wp2_with (first | (go_at_call 122; refine (lit (HAN.out _) (by assumption)).mono ?_; rintro e z ⟨rfl, hz⟩; obtain ⟨z, rfl⟩ := Bl.on hz; clear hz) | (go_at_call 122; refine (HAN.out _).mono ?_; rintro e z ⟨rfl, hz⟩; obtain ⟨z, rfl⟩ := Bl.on hz; clear hz))
  first
   | (go_ret; exact ⟨rfl, Below.step HB.out (Bl.prop _)⟩)
   | (refine wp_region_bl (by kernel_rfl) (by kernel_rfl) ?_; (repeat (go_big_quiet_step (first | (go_at_call 122; exact Calls.bl_of (lit (HAN.out _) (by assumption))) | (go_at_call 122; exact Calls.bl_of (HAN.out _))))); refine wpQuiet_nil ?_; rintro _ ⟨zq, rfl⟩; go_wp2_with (first | (go_at_call 122; refine (lit (HAN.out _) (by assumption)).mono ?_; rintro e z ⟨rfl, hz⟩; obtain ⟨z, rfl⟩ := Bl.on hz; clear hz) | (go_at_call 122; refine (HAN.out _).mono ?_; rintro e z ⟨rfl, hz⟩; obtain ⟨z, rfl⟩ := Bl.on hz; clear hz)); go_ret; exact ⟨rfl, Below.step HB.out (Bl.prop _)⟩)
set_option maxRecDepth 100000 in
set_option maxHeartbeats 4000000 in
theorem rnatural_out (v : CV) (C : KCon) (i : Int) (w : World) (h : actnB C i = false) : Calls Tryz.prog 124 #[v.val C, .int .i64 i] w (RetB (.bool ((actnB C i) && false)) w) := by
 obtain ⟨⟨vhA, vhc⟩, ⟨vuA, vuc⟩, ⟨vaA, vac⟩, ⟨vkA, vkc⟩, ⟨voA, voc⟩⟩ := v
 simp only [CV.val, CV.cells]
 have HAN : Hid (∀ W : World, Calls Tryz.prog 122 #[.agg #[.int .i64 C.parties, .slice vhA C.holders.length vhc, .slice vuA C.units.length vuc, .slice vaA C.acts.length vac, .slice vkA C.clauses.length vkc, .int .i64 C.days, .slice voA C.off.length voc], .int .i64 i] W (RetB (.bool false) W)) := fun W => lit (ractn_any (⟨⟨vhA, vhc⟩, ⟨vuA, vuc⟩, ⟨vaA, vac⟩, ⟨vkA, vkc⟩, ⟨voA, voc⟩⟩ : CV) C i W) h
 rw [cd_self ((actnB C i) && false)]
 generalize hE : cond ((actnB C i) && false) true false = E
 simp only [cds] at hE
 go_enter Tryz.func124, Tryz.ntmps124
 go_upto_region 1 with (fail)
 generalize hW0 : World.alloc _ _ = W0
 obtain ⟨HB, hh0⟩ := bx1 hW0; clear hW0
 obtain ⟨k0_0, k0_1, k0_2, k0_3, k0_4, k0_5, k0_6⟩ := kc7 hh0
 clear hh0
 change Code.wp _ _ _ _ (Bl.val (⟨W0, Below.refl _ _⟩ : Bl W0))
 generalize (⟨W0, Below.refl _ _⟩ : Bl W0) = s0
 repeat' (first | (replace hE := cd_t hE (by assumption)) | (replace hE := cd_f hE (by assumption)) | (replace hE := cd_eq hE; rcases hE with ⟨q, q', hE⟩ | ⟨q, q', hE⟩) | (replace hE := cd_any hE; rcases hE with ⟨q, hE⟩ | ⟨q, hE⟩) | fail)
 all_goals
  subst hE
  go_wp2_with (first | (go_at_call 122; refine (lit (HAN.out _) (by assumption)).mono ?_; rintro e z ⟨rfl, hz⟩; obtain ⟨z, rfl⟩ := Bl.on hz; clear hz) | (go_at_call 122; refine (HAN.out _).mono ?_; rintro e z ⟨rfl, hz⟩; obtain ⟨z, rfl⟩ := Bl.on hz; clear hz))
  first
   | (go_ret; exact ⟨rfl, Below.step HB.out (Bl.prop _)⟩)
   | (refine wp_region_bl (by kernel_rfl) (by kernel_rfl) ?_; (repeat (go_big_quiet_step (first | (go_at_call 122; exact Calls.bl_of (lit (HAN.out _) (by assumption))) | (go_at_call 122; exact Calls.bl_of (HAN.out _))))); refine wpQuiet_nil ?_; rintro _ ⟨zq, rfl⟩; go_wp2_with (first | (go_at_call 122; refine (lit (HAN.out _) (by assumption)).mono ?_; rintro e z ⟨rfl, hz⟩; obtain ⟨z, rfl⟩ := Bl.on hz; clear hz) | (go_at_call 122; refine (HAN.out _).mono ?_; rintro e z ⟨rfl, hz⟩; obtain ⟨z, rfl⟩ := Bl.on hz; clear hz)); go_ret; exact ⟨rfl, Below.step HB.out (Bl.prop _)⟩)
theorem rnatural_any (v : CV) (C : KCon) (i : Int) (w : World) (hC : ConAt w v C) : Calls Tryz.prog 124 #[v.val C, .int .i64 i] w (RetB (.bool (C.natural i)) w) := by
 cases h : actnB C i with
 | false => exact lit (rnatural_out v C i w h) (by rw [h, natural_out h]; rfl)
 | true =>
  unfold actnB at h
  simp only [Bool.and_eq_true, decide_eq_true_eq] at h
  obtain ⟨n, rfl⟩ : ∃ n : Nat, i = n := ⟨i.toNat, by omega⟩
  obtain ⟨⟨ki, ro, gi, tg, un, ⟨ln, ld⟩⟩, ha⟩ : ∃ a, C.acts[n]? = some a := ⟨C.acts[n]'(by omega), List.getElem?_eq_getElem _⟩
  exact lit (rnatural_in v C n ki ro gi tg un ln ld w hC ha) (natural_in ha).symm
end Go.Proofs.YtaielhafpmjkaaaGreatDoor
