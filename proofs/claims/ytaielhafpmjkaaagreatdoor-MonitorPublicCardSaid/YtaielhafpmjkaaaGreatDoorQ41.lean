/-
  View; TruthP
-/
import Derived.Test.YtaielhafpmjkaaaGreatDoorQ40
import Derived.Test.YtaielhafpmjkaaaGreatDoorQ34
import Derived.Test.YtaielhafpmjkaaaGreatDoorQ35
namespace Go.Proofs.YtaielhafpmjkaaaGreatDoor
open Go.RowKit Go.Shelf
def okParties (C : KCon) (ps : List Int) : Bool := (!decide (ps.length = 0)) && ((!decide (12 < ps.length)) && (!(ps.any (fun x => decide (x < 0) || decide (C.parties ≤ x)))))
theorem okParties_all {C : KCon} {ps : List Int} (h : okParties C ps = true) : ∀ x ∈ ps, 0 ≤ x ∧ x < C.parties := by
 unfold okParties at h
 simp only [Bool.and_eq_true, Bool.not_eq_true', List.any_eq_false, Bool.or_eq_true, decide_eq_true_eq, not_or] at h
 intro x hx
 have := h.2.2 x hx
 omega
def JointPost (C : KCon) (l ps : List Int) (w : World) (e : Ending) (w' : World) : Prop :=
 ∃ (A : Option Addr) (c : Nat) (r : List Int) (er : Int), e = .returned (.tuple #[.slice A r.length c, .int .i64 er]) ∧ Below w.heap.size w w' ∧
  ((er = 0 ∧ Good C l ∧ okParties C ps = true ∧ r = viewTo C l ps l.length ∧ At w' 1 A r.length c (ints r)) ∨ (er ≠ 0 ∧ A = none ∧ c = 0 ∧ r = [] ∧ (¬ Good C l ∨ okParties C ps = false)))
set_option maxRecDepth 100000 in
set_option maxHeartbeats 2000000 in
theorem joint_any (v : CV) (C : KCon) (lv : SV) (l : List Int) (pv : SV) (ps : List Int) (w : World) (hC : ConAt w v C) (hL : At w 1 lv.A l.length lv.c (ints l)) (hP : At w 1 pv.A ps.length pv.c (ints ps)) : Calls Tryz.prog 52 #[v.val C, .slice lv.A l.length lv.c, .slice pv.A ps.length pv.c] w (JointPost C l ps w) := by
 obtain ⟨⟨vhA, vhc⟩, ⟨vuA, vuc⟩, ⟨vaA, vac⟩, ⟨vkA, vkc⟩, ⟨voA, voc⟩⟩ := v
 obtain ⟨lA, lc⟩ := lv
 obtain ⟨pA, pc⟩ := pv
 have hlx : l.length ≤ 9223372036854775807 := by have h1 := hL.2.2.1; have h2 := hL.2.2.2; unfold maxLen at h2; omega
 have hpx : ps.length ≤ 9223372036854775807 := by have h1 := hP.2.2.1; have h2 := hP.2.2.2; unfold maxLen at h2; omega
 have HC := Lib.hid hC; clear hC
 have HL := Lib.hid hL; clear hL
 have HP := Lib.hid hP; clear hP
 simp only [CV.val, CV.cells]
 go_enter Tryz.func52, Tryz.ntmps52
 go_upto_region 1 with (fail)
 generalize hW0 : World.alloc _ _ = W0
 obtain ⟨HB, hh0, hh1⟩ := bx2 hW0
 clear hW0
 obtain ⟨k0_0, k0_1, k0_2, k0_3, k0_4, k0_5, k0_6⟩ := kc7 hh0
 have k1_0 := kcell (i := 0) hh1 rfl
 change Code.wp _ _ _ _ (Bl.val (⟨W0, Below.refl _ _⟩ : Bl W0))
 generalize (⟨W0, Below.refl _ _⟩ : Bl W0) = s0
 have HBG := Lib.hid (fun z : Bl W0 => begin_any (⟨⟨vhA, vhc⟩, ⟨vuA, vuc⟩, ⟨vaA, vac⟩, ⟨vkA, vkc⟩, ⟨voA, voc⟩⟩ : CV) C z.val (HC.out.below (Below.step HB.out z.prop)))
 simp only [CV.val, CV.cells] at HBG
 have HH0 := Lib.hid hh0
 have HH1 := Lib.hid hh1
 clear hh0 hh1
 cases qv : C.valid with
 | false =>
  rw [qv] at HBG
  have HNG : Hid (¬ Good C l) := fun h => by rw [h.valid] at qv; cases qv
  have HBE : Hid (∀ z : Bl W0, Calls Tryz.prog 51 #[.agg #[.int .i64 C.parties, .slice vhA C.holders.length vhc, .slice vuA C.units.length vuc, .slice vaA C.acts.length vac, .slice vkA C.clauses.length vkc, .int .i64 C.days, .slice voA C.off.length voc]] z.val (fun e w' => e = .returned (.tuple #[.agg #[.int .i64 0, .slice none 0 0, .slice none 0 0, .slice none 0 0], .int .i64 1]) ∧ Below z.val.heap.size z.val w')) := fun z => (HBG.out z).mono (by
   rintro e w' ⟨hb, ⟨h0, _⟩ | ⟨_, he⟩⟩
   · cases h0
   · exact ⟨he, hb⟩)
  go_wp2_with (go_at_call 51; refine (HBE.out _).mono ?_; rintro e z1 ⟨rfl, hz⟩; obtain ⟨z1, rfl⟩ := Bl.on hz; clear hz)
  go_ret2
  exact ⟨none, 0, [], 1, rfl, Below.step HB.out (Below.alloc' (Bl.prop _) _), .inr ⟨by decide, rfl, rfl, rfl, .inl HNG.out⟩⟩
 | true =>
  rw [qv] at HBG
  have HBE := Lib.hid (fun z : Bl W0 => (HBG.out z).mono (fun _ _ h => h.ret))
  generalize C.first = s1 at HBE
  go_wp2_with (go_at_call 51; refine (HBE.out _).mono ?_; rintro e z1 ⟨ahA, ahc, auA, auc, amA, amc, rfl, _, _, hz⟩; obtain ⟨z1, rfl⟩ := Bl.on hz; clear hz; refine Hid.out ?_)
  refine Lib.hid ?_
  go_upto_region 2 with (fail)
  have hpa : Below W0.heap.size W0 (z1.val.alloc (.cells #[.int .i64 s1.day, .slice ahA s1.holders.length ahc, .slice auA s1.used.length auc, .slice amA s1.marks.length amc] 43)) := Below.alloc' z1.prop _
  obtain ⟨z2, hz2⟩ : ∃ z2 : Bl W0, z1.val.alloc (.cells #[.int .i64 s1.day, .slice ahA s1.holders.length ahc, .slice auA s1.used.length auc, .slice amA s1.marks.length amc] 43) = z2.val := ⟨⟨_, hpa⟩, rfl⟩
  rw [hz2]
  generalize (Value.pointer (some ⟨z1.val.heap.size, 0, none⟩)) = vp
  clear hz2 hpa
  have HCO := Lib.hid (fun z : Bl W0 => contains_j1 w.heap.size (fun x => decide (x < 0) || decide (C.parties ≤ x)) ⟨pA, pc⟩ ps z.val (HP.out.below (by omega) (Below.step HB.out z.prop)) (fun z' x _ => strange_any w.heap.size (⟨⟨vhA, vhc⟩, ⟨vuA, vuc⟩, ⟨vaA, vac⟩, ⟨vkA, vkc⟩, ⟨voA, voc⟩⟩ : CV) C x z'.val (by rw [(Below.step z.prop z'.prop).block _ (lt_of_heap HH0.out)]; exact HH0.out)))
  simp only at HCO
  have ho : okParties C ps = ((!decide (ps.length = 0)) && ((!decide (12 < ps.length)) && (!(ps.any (fun x => decide (x < 0) || decide (C.parties ≤ x)))))) := rfl
  generalize hs : ps.any (fun x => decide (x < 0) || decide (C.parties ≤ x)) = st at HCO ho
  clear hs
  have HOP := Lib.hid ho; clear ho
  cases q1 : decide (ps.length = 0) with
  | true =>
   have q1' : ((ps.length : Int) == 0) = true := by rw [decide_eq_true_eq] at q1; rw [beq_iff_eq]; omega
   have HF : Hid (okParties C ps = false) := by show _ = _; rw [HOP.out, q1]; rfl
   go_wp2
   go_ret2
   exact ⟨none, 0, [], 1, rfl, Below.step HB.out (Bl.prop _), .inr ⟨by decide, rfl, rfl, rfl, .inr HF.out⟩⟩
  | false =>
   have q1' : ((ps.length : Int) == 0) = false := by rw [decide_eq_false_iff_not] at q1; rw [beq_eq_false_iff_ne]; omega
   cases q2 : decide (12 < ps.length) with
   | true =>
    have q2' : (12 : Int) < (ps.length : Int) := by rw [decide_eq_true_eq] at q2; omega
    have HF : Hid (okParties C ps = false) := by show _ = _; rw [HOP.out, q1, q2]; rfl
    go_wp2
    go_ret2
    exact ⟨none, 0, [], 1, rfl, Below.step HB.out (Bl.prop _), .inr ⟨by decide, rfl, rfl, rfl, .inr HF.out⟩⟩
   | false =>
    have q2' : ¬ ((12 : Int) < (ps.length : Int)) := by rw [decide_eq_false_iff_not] at q2; omega
    cases st with
    | true =>
     have HF : Hid (okParties C ps = false) := by show _ = _; rw [HOP.out, q1, q2]; rfl
     go_wp2_with (go_at_call 76; refine (HCO.out _).mono ?_; rintro e z ⟨rfl, hz⟩; obtain ⟨z, rfl⟩ := Bl.on hz; clear hz)
     go_ret2
     exact ⟨none, 0, [], 1, rfl, Below.step HB.out (Bl.prop _), .inr ⟨by decide, rfl, rfl, rfl, .inr HF.out⟩⟩
    | false =>
     have HF : Hid (okParties C ps = true) := by show _ = _; rw [HOP.out, q1, q2]; rfl
     cases q4 : decide ((4000 : Int) < (l.length : Int)) with
     | true =>
      have HNG : Hid (¬ Good C l) := fun h => by have := h.len; rw [decide_eq_true_eq] at q4; omega
      go_wp2_with (go_at_call 76; refine (HCO.out _).mono ?_; rintro e z ⟨rfl, hz⟩; obtain ⟨z, rfl⟩ := Bl.on hz; clear hz)
      go_ret2
      exact ⟨none, 0, [], 3, rfl, Below.step HB.out (Bl.prop _), .inr ⟨by decide, rfl, rfl, rfl, .inl HNG.out⟩⟩
     | false =>
      have HL4 : Hid (l.length ≤ 4000) := by show l.length ≤ 4000; rw [decide_eq_false_iff_not] at q4; omega
      have HSE := Lib.hid (fun z : Bl W0 => seen_any (w.heap.size + 1) w.heap.size (⟨⟨vhA, vhc⟩, ⟨vuA, vuc⟩, ⟨vaA, vac⟩, ⟨vkA, vkc⟩, ⟨voA, voc⟩⟩ : CV) C ⟨lA, lc⟩ l ⟨pA, pc⟩ ps z.val (HC.out.below (Below.step HB.out z.prop)) qv (HL.out.below (by omega) (Below.step HB.out z.prop)) HL4.out (HP.out.below (by omega) (Below.step HB.out z.prop)) (okParties_all HF.out) (by rw [z.prop.block _ (lt_of_heap HH0.out)]; exact HH0.out) (by rw [z.prop.block _ (lt_of_heap HH1.out)]; exact HH1.out))
      simp only [CV.val, CV.cells] at HSE
      go_wp2_with (first | (go_at_call 76; refine (HCO.out _).mono ?_; rintro e z ⟨rfl, hz⟩; obtain ⟨z, rfl⟩ := Bl.on hz; clear hz) | (go_at_call 77; refine (HSE.out _).mono ?_; rintro e z3 ⟨A, c, r, er, rfl, hb3, hcase⟩; refine Hid.out ?_))
      refine Lib.hid ?_
      obtain ⟨zc, HZC⟩ : ∃ zc : Bl W0, Hid (Below zc.val.heap.size zc.val z3) := ⟨_, hb3⟩
      have HCA := Lib.hid hcase
      clear hb3 hcase
      go_wp2
      go_ret2
      refine ⟨A, c, r, er, rfl, Below.step HB.out (Below.step zc.prop HZC.out), ?_⟩
      rcases HCA.out with ⟨e1, e2, e3, e4⟩ | ⟨e1, e2, e3, e4, k, x, hk, hx⟩
      · exact .inl ⟨e1, ⟨qv, HL4.out, e2⟩, HF.out, e3, e4⟩
      · exact .inr ⟨e1, e2, e3, e4, .inl (fun h => hx (h.legal k x hk))⟩
def ViewPost (C : KCon) (l : List Int) (p : Int) (w : World) (e : Ending) (w' : World) : Prop :=
 ∃ (A : Option Addr) (c : Nat) (r : List Int) (er : Int), e = .returned (.tuple #[.slice A r.length c, .int .i64 er]) ∧ Below w.heap.size w w' ∧
  ((er = 0 ∧ Good C l ∧ (0 ≤ p ∧ p < C.parties) ∧ r = viewTo C l [p] l.length ∧ At w' 1 A r.length c (ints r)) ∨ (er ≠ 0 ∧ A = none ∧ c = 0 ∧ r = [] ∧ (¬ Good C l ∨ ¬ (0 ≤ p ∧ p < C.parties))))
theorem okParties_one {C : KCon} {p : Int} : okParties C [p] = true ↔ 0 ≤ p ∧ p < C.parties := by
 unfold okParties
 simp only [List.length_singleton, List.any_cons, List.any_nil, Bool.or_false, Bool.and_eq_true, Bool.not_eq_true', Bool.or_eq_false_iff, decide_eq_false_iff_not]
 omega
set_option maxRecDepth 100000 in
set_option maxHeartbeats 1000000 in
theorem view_any (v : CV) (C : KCon) (lv : SV) (l : List Int) (p : Int) (w : World) (hC : ConAt w v C) (hL : At w 1 lv.A l.length lv.c (ints l)) : Calls Tryz.prog 25 #[v.val C, .slice lv.A l.length lv.c, .int .i64 p] w (ViewPost C l p w) := by
 obtain ⟨⟨vhA, vhc⟩, ⟨vuA, vuc⟩, ⟨vaA, vac⟩, ⟨vkA, vkc⟩, ⟨voA, voc⟩⟩ := v
 obtain ⟨lA, lc⟩ := lv
 obtain ⟨W0, HW0⟩ : ∃ W0, Hid (W0 = (w.alloc (.cells #[.int .i64 C.parties, .slice vhA C.holders.length vhc, .slice vuA C.units.length vuc, .slice vaA C.acts.length vac, .slice vkA C.clauses.length vkc, .int .i64 C.days, .slice voA C.off.length voc] 27)).alloc (.cells #[.int .i64 p] 3)) := ⟨_, rfl⟩
 have HB : Hid (Below w.heap.size w W0) := by show Below _ _ _; rw [HW0.out]; exact Below.alloc' (Below.alloc' (Below.refl _ _) _) _
 have hx1 : W0.heap[w.heap.size + 1]? = some (.cells #[.int .i64 p] 3 (0, 0)) := by rw [HW0.out]; exact (by have h := heap_alloc_new (w.alloc (.cells #[.int .i64 C.parties, .slice vhA C.holders.length vhc, .slice vuA C.units.length vuc, .slice vaA C.acts.length vac, .slice vkA C.clauses.length vkc, .int .i64 C.days, .slice voA C.off.length voc] 27)) (.cells #[.int .i64 p] 3); simp only [World.size_alloc] at h; exact h)
 have HJ := Lib.hid (joint_any (⟨⟨vhA, vhc⟩, ⟨vuA, vuc⟩, ⟨vaA, vac⟩, ⟨vkA, vkc⟩, ⟨voA, voc⟩⟩ : CV) C ⟨lA, lc⟩ l ⟨some ⟨w.heap.size + 1, 0, none⟩, 1⟩ [p] W0 (hC.below HB.out) (hL.below (by omega) HB.out) (at_row (n := 1) (xs := [.int .i64 p]) hx1 rfl (by intro u hu; simp only [List.mem_singleton] at hu; subst hu; rfl) (by unfold maxLen; omega)))
 simp only [CV.val, CV.cells, List.length_singleton] at HJ ⊢
 clear hC hL hx1
 go_enter Tryz.func25, Tryz.ntmps25
 go_upto_region 1 with (fail)
 go_wp2_with (rw [← HW0.out]; go_at_call 52; refine HJ.out.mono ?_; rintro e z3 ⟨A, c, r, er, rfl, hb3, hcase⟩; refine Hid.out ?_)
 refine Lib.hid ?_
 have HZ := Lib.hid hb3
 have HCA := Lib.hid hcase
 clear hb3 hcase
 go_wp2
 go_ret2
 refine ⟨A, c, r, er, rfl, Below.step HB.out HZ.out, ?_⟩
 rcases HCA.out with ⟨e1, e2, e3, e4, e5⟩ | ⟨e1, e2, e3, e4, e5⟩
 · exact .inl ⟨e1, e2, okParties_one.1 e3, e4, e5⟩
 · refine .inr ⟨e1, e2, e3, e4, ?_⟩
   rcases e5 with e5 | e5
   · exact .inl e5
   · exact .inr (fun h => by rw [okParties_one.2 h] at e5; cases e5)
end Go.Proofs.YtaielhafpmjkaaaGreatDoor
namespace Go.Proofs.YtaielhafpmjkaaaGreatDoor
open Go.RowKit
theorem seenB_one {C : KCon} {s : KState} {p x : Int} : seenB C s [p] x = ((x == -1) || C.sees s p x) := by
 unfold seenB
 simp
theorem seen_nexts {C : KCon} {s : KState} {p x : Int} {r : List KState} (hs : s ∈ r) (hd : s.day < C.days) (h : seenB C s [p] x = true) : C.next s x ∈ C.nexts p x r := by
 unfold KCon.nexts
 refine List.mem_map.2 ⟨s, List.mem_filter.2 ⟨hs, ?_⟩, rfl⟩
 unfold fits
 rw [seenB_one] at h
 rw [h, Bool.and_true, Bool.not_eq_true', decide_eq_false_iff_not]
 omega
theorem unseen_act {C : KCon} {s : KState} {p x : Int} (hx : C.stepOk x) (h : seenB C s [p] x = false) : ∃ i : Nat, (i : Int) = x ∧ i < C.acts.length ∧ C.sees s p i = false := by
 rw [seenB_one, Bool.or_eq_false_iff] at h
 rcases hx with rfl | ⟨h0, h1⟩
 · exact absurd h.1 (by decide)
 · refine ⟨x.toNat, by omega, by omega, ?_⟩
   rw [show ((x.toNat : Nat) : Int) = x by omega]
   exact h.2
theorem truth {C : KCon} {l : List Int} {p : Int} (hG : Good C l) (hp : 0 ≤ p ∧ p < C.parties) : ∀ (k : Nat) (r : List KState), k ≤ l.length → Watched C p (viewTo C l [p] k) r → C.att (l.take k) ∈ r
 | 0, r, _, h => by
  have h1 := (Watched.inv_nil h).2
  rw [List.take_zero]
  exact h1.has _ (List.mem_singleton.2 rfl)
 | k + 1, r, hk, h => by
  have hx := List.getElem?_eq_getElem (l := l) (i := k) (by omega)
  generalize l[k] = x at hx
  obtain ⟨hO, hd, hs, _⟩ := stepErr_zero (hG.legal k x hx)
  rw [att_succ hx]
  rw [viewTo_some hx] at h
  cases hb : seenB C (C.att (l.take k)) [p] x with
  | true =>
   rw [hb, cond_true] at h
   obtain ⟨r0, h0, h1⟩ := Watched.inv_snoc h
   exact h1.2.2.has _ (seen_nexts (truth hG hp k r0 (by omega) h0) hd hb)
  | false =>
   rw [hb, cond_false] at h
   obtain ⟨i, rfl, hi, hn⟩ := unseen_act hs hb
   obtain ⟨b, hclo⟩ := h.clo
   exact hclo.unseen (truth hG hp k r (by omega) h) hd hp.1 hp.2 hi hn
theorem viewTo_at {C : KCon} {l ps : List Int} : ∀ (n k : Nat) (x : Int), (viewTo C l ps n)[k]? = some x → ∃ j, j < n ∧ l[j]? = some x ∧ seenB C (C.att (l.take j)) ps x = true ∧ viewTo C l ps j = (viewTo C l ps n).take k
 | 0, k, x, h => by simp [viewTo] at h
 | n + 1, k, x, h => by
  rw [viewTo] at h ⊢
  cases hn : l[n]? with
  | none =>
   rw [hn] at h
   obtain ⟨j, h1, h2, h3, h4⟩ := viewTo_at n k x h
   exact ⟨j, by omega, h2, h3, h4⟩
  | some y =>
   rw [hn] at h
   cases hb : seenB C (C.att (l.take n)) ps y with
   | false =>
    simp only [hb, cond_false] at h ⊢
    obtain ⟨j, h1, h2, h3, h4⟩ := viewTo_at n k x h
    exact ⟨j, by omega, h2, h3, h4⟩
   | true =>
    simp only [hb, cond_true] at h ⊢
    by_cases hk : k < (viewTo C l ps n).length
    · rw [List.getElem?_append_left hk] at h
      obtain ⟨j, h1, h2, h3, h4⟩ := viewTo_at n k x h
      exact ⟨j, by omega, h2, h3, by rw [h4, List.take_append_of_le_length (by omega)]⟩
    · have hk2 : k = (viewTo C l ps n).length := by
       have := (List.getElem?_eq_some_iff.1 h).1
       rw [List.length_append, List.length_singleton] at this
       omega
      subst hk2
      rw [List.getElem?_append_right (Nat.le_refl _), Nat.sub_self] at h
      simp at h
      subst h
      exact ⟨n, by omega, hn, hb, by rw [List.take_append_of_le_length (Nat.le_refl _), List.take_length]⟩
theorem watchEr_limit {C : KCon} {l : List Int} {p er : Int} (hG : Good C l) (hp : 0 ≤ p ∧ p < C.parties) (h : WatchEr C p (viewTo C l [p] l.length) er) : er = 3 := by
 rcases h with (⟨_, h⟩ | ⟨h, _⟩) | ⟨h, _⟩ | ⟨k, r, x, hk, hw, ha⟩
 · exact absurd ⟨hG.valid, hp⟩ h
 · exact h
 · exact h
 · obtain ⟨j, hj, hlj, hb, hv⟩ := viewTo_at _ _ _ hk
   obtain ⟨hO, hd, hs, _⟩ := stepErr_zero (hG.legal j x hlj)
   rw [← hv] at hw
   rcases ha with ⟨_, h1⟩ | ⟨_, ⟨_, h1⟩ | ⟨h1, _⟩⟩
   · exact absurd hs h1
   · have := seen_nexts (truth hG hp j r (by omega) hw) hd hb
     rw [h1] at this
     cases this
   · exact h1
theorem shift_day (C : KCon) (i : Nat) (a : KAct) (s : KState) : (C.shift i a s).day = s.day := by
 unfold KCon.shift
 cases (a.kind == 3) <;> rfl
theorem act_day (C : KCon) (i : Nat) (a : KAct) (s : KState) : (C.act i a s).day = s.day := by
 unfold KCon.act
 cases ((a.kind != 1) && (s.used.getD i false)) with
 | true => rfl
 | false =>
  cases (a.kind != 1) with
  | false => rfl
  | true => exact shift_day C i a _
def ticks (v : List Int) : Int := ((v.filter (fun x => x == -1)).length : Int)
theorem ticks_snoc (v : List Int) (x : Int) : ticks (v ++ [x]) = ticks v + cond (x == -1) 1 0 := by
 unfold ticks
 rw [List.filter_append, List.length_append]
 cases h : (x == -1) <;> simp [h]
theorem reach_day {C : KCon} {p d : Int} {l : List KState} (h0 : ∀ s ∈ l, s.day = d) {s : KState} (h : Reach C p l s) : s.day = d := by
 induction h with
 | base hs => exact h0 _ hs
 | step _ _ hx ih =>
  obtain ⟨i, a, rfl, ha, _⟩ := hid_mem hx
  rw [next_act ha, act_day]
  exact ih
theorem watched_day {C : KCon} {p : Int} {v : List Int} {r : List KState} (h : Watched C p v r) : ∀ s ∈ r, s.day = ticks v := by
 induction h with
 | nil _ h => exact fun s hs => reach_day (l := [C.first]) (fun s hs => by rw [List.mem_singleton] at hs; subst hs; rfl) (h.reach s hs)
 | snoc _ h ih =>
  rename_i v0 r0 r1 x _
  refine fun s hs => reach_day (fun t ht => ?_) (h.2.2.reach s hs)
  unfold KCon.nexts at ht
  obtain ⟨s0, hs0, rfl⟩ := List.mem_map.1 ht
  have h0 := ih s0 (List.mem_filter.1 hs0).1
  rw [ticks_snoc]
  rcases h.1 with rfl | ⟨e0, e1⟩
  · show s0.day + 1 = _
    rw [h0]
    rfl
  · have hx : (x == -1) = false := by rw [beq_eq_false_iff_ne]; omega
    obtain ⟨i, hi⟩ : ∃ i : Nat, x = i := ⟨x.toNat, by omega⟩
    subst hi
    obtain ⟨a, ha⟩ : ∃ a, C.acts[i]? = some a := ⟨C.acts[i]'(by omega), List.getElem?_eq_getElem _⟩
    rw [next_act ha, act_day, h0, hx]
    simp
theorem hid_none {C : KCon} {s : KState} {p : Int} (h : ∀ i : Nat, i < C.acts.length → C.sees s p i = true) : C.hid s p = [] := by
 cases hh : C.hid s p with
 | nil => rfl
 | cons x r =>
  obtain ⟨i, a, rfl, ha, hb⟩ := hid_mem (x := x) (by rw [hh]; exact List.mem_cons_self ..)
  unfold hidB at hb
  rw [ha] at hb
  simp only [h i (List.getElem?_eq_some_iff.1 ha).1, Bool.not_true, Bool.and_false] at hb
  cases hb
theorem too_one {C : KCon} {p : Int} {s : KState} (h : C.hid s p = []) : ¬ TooMany C p [s] := by
 rintro ⟨F, hn, hl, hr⟩
 have hsub : ∀ t ∈ F, t ∈ [s] := fun t ht => (hr t ht).sub (fun _ h => h) (fun t ht _ x hx => by
  rw [List.mem_singleton] at ht
  subst ht
  rw [h] at hx
  cases hx)
 have := nodup_len hn hsub
 simp at this
 omega
structure Sees (C : KCon) (p : Int) (P : KState → Prop) : Prop where
 first : P C.first
 next : ∀ (s : KState) (x : Int), P s → C.stepErr s x = 0 → P (C.next s x)
 sees : ∀ (s : KState) (i : Nat), P s → StateOk C s → i < C.acts.length → C.sees s p i = true
theorem Sees.att {C : KCon} {p : Int} {P : KState → Prop} (h : Sees C p P) {l : List Int} (hG : Good C l) : ∀ k, k ≤ l.length → P (C.att (l.take k))
 | 0, _ => by rw [List.take_zero]; exact h.first
 | k + 1, hk => by
  have hx := List.getElem?_eq_getElem (l := l) (i := k) (by omega)
  rw [att_succ hx]
  exact h.next _ _ (h.att hG k (by omega)) (hG.legal k _ hx)
theorem Sees.seen {C : KCon} {p : Int} {P : KState → Prop} (h : Sees C p P) {l : List Int} (hG : Good C l) {k : Nat} {x : Int} (hx : l[k]? = some x) : seenB C (C.att (l.take k)) [p] x = true := by
 have hk := (List.getElem?_eq_some_iff.1 hx).1
 obtain ⟨hO, _, hs, _⟩ := stepErr_zero (hG.legal k x hx)
 rw [seenB_one]
 rcases hs with rfl | ⟨e0, e1⟩
 · rfl
 · obtain ⟨i, hi⟩ : ∃ i : Nat, x = i := ⟨x.toNat, by omega⟩
   subst hi
   rw [h.sees _ i (h.att hG k (by omega)) hO (by omega), Bool.or_true]
theorem Sees.view {C : KCon} {p : Int} {P : KState → Prop} (h : Sees C p P) {l : List Int} (hG : Good C l) : ∀ k, k ≤ l.length → viewTo C l [p] k = l.take k
 | 0, _ => by rw [List.take_zero]; rfl
 | k + 1, hk => by
  have hx := List.getElem?_eq_getElem (l := l) (i := k) (by omega)
  rw [viewTo_some hx, h.seen hG hx, cond_true, h.view hG k (by omega), take_snoc' hx]
theorem Sees.alone {C : KCon} {p : Int} {P : KState → Prop} (h : Sees C p P) {l : List Int} (hG : Good C l) : ∀ (k : Nat) (r : List KState), k ≤ l.length → Watched C p (l.take k) r → r = [C.att (l.take k)]
 | 0, r, _, hw => by
  rw [List.take_zero] at hw ⊢
  exact (Watched.inv_nil hw).2.one (hid_none (fun i hi => h.sees _ i h.first (first_ok hG.valid) hi))
 | k + 1, r, hk, hw => by
  have hx := List.getElem?_eq_getElem (l := l) (i := k) (by omega)
  rw [take_snoc' hx] at hw
  obtain ⟨r0, h0, h1⟩ := Watched.inv_snoc hw
  have := h.alone hG k r0 (by omega) h0
  subst this
  have hl := hG.legal k _ hx
  obtain ⟨hO, hd, _, hO'⟩ := stepErr_zero hl
  have hn : C.nexts p l[k] [C.att (l.take k)] = [C.next (C.att (l.take k)) l[k]] := by
   have hf : fits C p l[k] (C.att (l.take k)) = true := by
    unfold fits
    have := h.seen hG hx
    rw [seenB_one] at this
    rw [this, Bool.and_true, Bool.not_eq_true', decide_eq_false_iff_not]
    omega
   simp [KCon.nexts, hf]
  have h2 := h1.2.2
  rw [hn] at h2
  rw [att_succ hx]
  exact h2.one (hid_none (fun i hi => h.sees _ i (h.next _ _ (h.att hG k (by omega)) hl) hO' hi))
theorem Sees.noErr {C : KCon} {p : Int} {P : KState → Prop} (h : Sees C p P) {l : List Int} (hG : Good C l) (hp : 0 ≤ p ∧ p < C.parties) (er : Int) : ¬ WatchEr C p l er := by
 rintro ((⟨_, h1⟩ | ⟨_, _, h1⟩) | ⟨_, h1⟩ | ⟨k, r, x, hk, hw, ha⟩)
 · exact h1 ⟨hG.valid, hp⟩
 · exact too_one (hid_none (fun i hi => h.sees _ i h.first (first_ok hG.valid) hi)) h1
 · have := hG.len; omega
 · have hkl := (List.getElem?_eq_some_iff.1 hk).1
   have := h.alone hG k r (by omega) hw
   subst this
   have hl := hG.legal k x hk
   obtain ⟨hO, hd, hs, hO'⟩ := stepErr_zero hl
   have hn : C.nexts p x [C.att (l.take k)] = [C.next (C.att (l.take k)) x] := by
    have hf : fits C p x (C.att (l.take k)) = true := by
     unfold fits
     have := h.seen hG hk
     rw [seenB_one] at this
     rw [this, Bool.and_true, Bool.not_eq_true', decide_eq_false_iff_not]
     omega
    simp [KCon.nexts, hf]
   rcases ha with ⟨_, h1⟩ | ⟨_, ⟨_, h1⟩ | ⟨_, h1⟩⟩
   · exact h1 hs
   · rw [hn] at h1; cases h1
   · rw [hn] at h1
     exact too_one (hid_none (fun i hi => h.sees _ i (h.next _ _ (h.att hG k (by omega)) hl) hO' hi)) h1
def meansI (x : Int) : Int := cond ((x == 3) || (x == 5)) 1 (cond (x == 4) 3 2)
theorem means_of {x : Int} (h : meaningI x ≠ 0) : meaningI x = meansI x := by
 unfold meaningI at h ⊢
 unfold meansI
 cases h3 : (x == 3) with
 | true => rfl
 | false =>
  cases h5 : (x == 5) with
  | true => rfl
  | false =>
   cases h4 : (x == 4) with
   | true => rfl
   | false =>
    simp only [h3, h5, h4, cond_false, Bool.or_self] at h ⊢
    cases h0 : (x == 0) with
    | true => rfl
    | false =>
     cases h1 : (x == 1) with
     | true => rfl
     | false =>
      cases h2 : (x == 2) with
      | true => rfl
      | false => simp [h0, h1, h2] at h
theorem verdict_of {C : KCon} {p k : Int} {r : List KState} {s : KState} (hs : s ∈ r) (h : C.verdict ⟨p, r⟩ k ≠ 0) : C.verdict ⟨p, r⟩ k = meansI (statusAt s.marks k) := by
 unfold KCon.verdict at h ⊢
 cases q : verdict1 C ⟨p, r⟩ k with
 | false => rw [q] at h; exact absurd rfl h
 | true =>
  rw [q, cond_true] at h
  rw [cond_true]
  have := agreed_all rfl h s hs
  rw [← this] at h ⊢
  exact means_of h
theorem blames_of {C : KCon} {p q : Int} {r : List KState} {s : KState} (hs : s ∈ r) (h : C.blames ⟨p, r⟩ q ≠ 0) : C.blames ⟨p, r⟩ q = blameI (C.breach s q) := by
 unfold KCon.blames at h ⊢
 cases e : blames1 C ⟨p, r⟩ q with
 | false => rw [e] at h; exact absurd rfl h
 | true =>
  rw [e, cond_true] at h
  rw [cond_true]
  exact (agreed_all rfl h s hs).symm
theorem verdict_none (C : KCon) (p k : Int) : C.verdict ⟨p, []⟩ k = 0 := by
 unfold KCon.verdict
 cases verdict1 C ⟨p, []⟩ k <;> rfl
theorem blames_none (C : KCon) (p q : Int) : C.blames ⟨p, []⟩ q = 0 := by
 unfold KCon.blames
 cases blames1 C ⟨p, []⟩ q <;> rfl
end Go.Proofs.YtaielhafpmjkaaaGreatDoor
