/-
  Same; Work1; Work2
-/
import Derived.Test.YtaielhafpmjkaaaGreatDoorQ11
namespace Go.Proofs.YtaielhafpmjkaaaGreatDoor
open Go.RowKit
noncomputable def eqB {α : Type} (a b : α) : Bool := @decide (a = b) (Classical.propDecidable _)
theorem eqB_iff {α : Type} {a b : α} : eqB a b = true ↔ a = b := by unfold eqB; exact @decide_eq_true_iff _ (Classical.propDecidable _)
theorem eqB_self {α : Type} (a : α) : eqB a a = true := eqB_iff.2 rfl
theorem eqB_ne {α : Type} {a b : α} (h : a ≠ b) : eqB a b = false := by
 cases e : eqB a b with
 | false => rfl
 | true => exact absurd (eqB_iff.1 e) h
theorem eq_of_upto {α : Type} {l m : List α} (hl : l.length = m.length) (h : ∀ (i : Nat) (a b : α), i < l.length → l[i]? = some a → m[i]? = some b → a = b) : l = m := by
 apply List.ext_getElem hl
 intro i h1 h2
 exact h i _ _ h1 (List.getElem?_eq_getElem h1) (List.getElem?_eq_getElem h2)
theorem run_neq_marks (w : World) (a0 a1 a2 a3 b0 b1 b2 b3 : Int) (a4 b4 : Bool) : (binOp .neq 57 (.agg #[.int .i64 a0, .int .i64 a1, .int .i64 a2, .int .i64 a3, .bool a4]) (.agg #[.int .i64 b0, .int .i64 b1, .int .i64 b2, .int .i64 b3, .bool b4])).run Tryz.prog w = .ok (.bool (!(eqB (⟨a0, a1, a2, a3, a4⟩ : KMark) ⟨b0, b1, b2, b3, b4⟩))) w := by
 rw [run_neq_struct]
 go_simp
 by_cases h : (⟨a0, a1, a2, a3, a4⟩ : KMark) = ⟨b0, b1, b2, b3, b4⟩
 · rw [eqB_iff.2 h]
   cases h
   simp
 · rw [eqB_ne h]
   simp only [KMark.mk.injEq] at h
   by_cases h1 : a0 = b0 <;> by_cases h2 : a1 = b1 <;> by_cases h3 : a2 = b2 <;> by_cases h4 : a3 = b3 <;> cases a4 <;> cases b4 <;> simp_all
set_option maxRecDepth 100000 in
set_option maxHeartbeats 2000000 in
theorem eq_ints (x y : SV) (l m : List Int) (w : World) (hx : At w 1 x.A l.length x.c (ints l)) (hy : At w 1 y.A m.length y.c (ints m)) : Calls Tryz.prog 53 #[.slice x.A l.length x.c, .slice y.A m.length y.c] w (RetB (.bool (eqB l m)) w) := by
 obtain ⟨xA, xc⟩ := x
 obtain ⟨yA, yc⟩ := y
 have hb1 : l.length ≤ 9223372036854775807 := by have h1 := hx.2.2.1; have h2 := hx.2.2.2; unfold maxLen at h2; omega
 have hb2 : m.length ≤ 9223372036854775807 := by have h1 := hy.2.2.1; have h2 := hy.2.2.2; unfold maxLen at h2; omega
 have HX := Lib.hid hx; clear hx
 have HY := Lib.hid hy; clear hy
 by_cases hnm : l.length = m.length
 · have HNM := Lib.hid hnm; clear hnm
   obtain ⟨n, HL, HM⟩ : ∃ n, Hid (l.length = n) ∧ Hid (m.length = n) := ⟨l.length, rfl, HNM.out.symm⟩
   show Calls _ _ #[.slice xA l.length xc, .slice yA m.length yc] _ _
   rw [HL.out, HM.out]
   rw [HL.out] at hb1
   clear hb2
   generalize hE : eqB l m = E
   have HE := Lib.hid hE; clear hE
   go_enter Tryz.func53, Tryz.ntmps53
   go_wp2
   go_loopg [13] n (fun gk v13 wr => ∃ (j q : Nat), gk = n - j ∧ j ≤ n ∧ v13 = .int .i64 j ∧ wr = w.drewN q ∧ Hid (∀ (i : Nat) (a b : Int), i < j → l[i]? = some a → m[i]? = some b → a = b))
   case atStart => exact ⟨0, 0, rfl, Nat.zero_le _, rfl, rfl, fun i a b h => by omega⟩
   case round =>
    obtain ⟨j, q, hgk, hj, rfl, rfl, hpre⟩ := hrel
    have HGK := Lib.hid hgk; clear hgk
    by_cases hlt : j < n
    · obtain ⟨a, ha⟩ : ∃ a, l[j]? = some a := ⟨l[j]'(by rw [HL.out]; exact hlt), List.getElem?_eq_getElem _⟩
      obtain ⟨b, hb⟩ : ∃ b, m[j]? = some b := ⟨m[j]'(by rw [HM.out]; exact hlt), List.getElem?_eq_getElem _⟩
      obtain ⟨b1, o1, hA1, hl1, hc1⟩ := HX.out.1.form (by rw [HL.out]; omega) (by omega)
      obtain ⟨b2, o2, hA2, hl2, hc2⟩ := HY.out.1.form (by rw [HM.out]; omega) (by omega)
      try simp only at hA1 hA2
      subst hA1 hA2
      have HLT := Lib.hid hl1; clear hl1 hl2
      have e1 : w.cell? ⟨b1, o1 + j, none⟩ = some (.int .i64 a) := by rw [hc1 _ (by rw [HL.out]; omega)]; simp only [ints, List.getElem?_map, ha, Option.map_some]
      have e2 : w.cell? ⟨b2, o2 + j, none⟩ = some (.int .i64 b) := by rw [hc2 _ (by rw [HM.out]; omega)]; simp only [ints, List.getElem?_map, hb, Option.map_some]
      clear hc1 hc2
      have HAB : Hid (l[j]? = some a ∧ m[j]? = some b) := ⟨ha, hb⟩
      clear ha hb
      by_cases hab : a = b
      · subst hab
        go_wp2_with fail
        go_region
        go_wp2
        go_roundg (n - (j + 1))
        case measure => have := HGK.out; omega
        case rel =>
         refine ⟨j + 1, q + 1, rfl, by omega, by go_num, rfl, fun i a' b' hi h1 h2 => ?_⟩
         by_cases e : i = j
         · subst e
           rw [HAB.out.1] at h1
           rw [HAB.out.2] at h2
           cases h1; cases h2; rfl
         · exact hpre.out i a' b' (by omega) h1 h2
      · obtain rfl : E = false := by
         rw [← HE.out]
         refine eqB_ne (fun h => hab ?_)
         have h1 := HAB.out.1
         rw [h, HAB.out.2] at h1
         exact (Option.some.inj h1).symm
        go_wp2_with fail
        go_region
        go_wp2
        go_ret
        exact ⟨rfl, below_drewN _ _⟩
    · have hjn : j = n := by omega
      subst hjn
      obtain rfl : E = true := by
       rw [← HE.out]
       exact eqB_iff.2 (eq_of_upto (HL.out.trans HM.out.symm) (fun i a b hi => hpre.out i a b (by have := HL.out; omega)))
      go_wp2
      go_ret
      exact ⟨rfl, below_drewN _ _⟩
 · have hne : ¬ ((l.length : Int) = (m.length : Int)) := by omega
   have hEf : eqB l m = false := eqB_ne (fun h => hnm (by rw [h]))
   rw [hEf]
   clear hEf hnm
   show Calls _ _ #[.slice xA l.length xc, .slice yA m.length yc] _ _
   go_enter Tryz.func53, Tryz.ntmps53
   go_wp2
   go_ret
   exact ⟨rfl, Below.refl _ _⟩
set_option maxRecDepth 100000 in
set_option maxHeartbeats 2000000 in
theorem eq_bools (x y : SV) (l m : List Bool) (w : World) (hx : At w 1 x.A l.length x.c (bools l)) (hy : At w 1 y.A m.length y.c (bools m)) : Calls Tryz.prog 54 #[.slice x.A l.length x.c, .slice y.A m.length y.c] w (RetB (.bool (eqB l m)) w) := by
 obtain ⟨xA, xc⟩ := x
 obtain ⟨yA, yc⟩ := y
 have hb1 : l.length ≤ 9223372036854775807 := by have h1 := hx.2.2.1; have h2 := hx.2.2.2; unfold maxLen at h2; omega
 have hb2 : m.length ≤ 9223372036854775807 := by have h1 := hy.2.2.1; have h2 := hy.2.2.2; unfold maxLen at h2; omega
 have HX := Lib.hid hx; clear hx
 have HY := Lib.hid hy; clear hy
 by_cases hnm : l.length = m.length
 · have HNM := Lib.hid hnm; clear hnm
   obtain ⟨n, HL, HM⟩ : ∃ n, Hid (l.length = n) ∧ Hid (m.length = n) := ⟨l.length, rfl, HNM.out.symm⟩
   show Calls _ _ #[.slice xA l.length xc, .slice yA m.length yc] _ _
   rw [HL.out, HM.out]
   rw [HL.out] at hb1
   clear hb2
   generalize hE : eqB l m = E
   have HE := Lib.hid hE; clear hE
   go_enter Tryz.func54, Tryz.ntmps54
   go_wp2
   go_loopg [13] n (fun gk v13 wr => ∃ (j q : Nat), gk = n - j ∧ j ≤ n ∧ v13 = .int .i64 j ∧ wr = w.drewN q ∧ Hid (∀ (i : Nat) (a b : Bool), i < j → l[i]? = some a → m[i]? = some b → a = b))
   case atStart => exact ⟨0, 0, rfl, Nat.zero_le _, rfl, rfl, fun i a b h => by omega⟩
   case round =>
    obtain ⟨j, q, hgk, hj, rfl, rfl, hpre⟩ := hrel
    have HGK := Lib.hid hgk; clear hgk
    by_cases hlt : j < n
    · obtain ⟨a, ha⟩ : ∃ a, l[j]? = some a := ⟨l[j]'(by rw [HL.out]; exact hlt), List.getElem?_eq_getElem _⟩
      obtain ⟨b, hb⟩ : ∃ b, m[j]? = some b := ⟨m[j]'(by rw [HM.out]; exact hlt), List.getElem?_eq_getElem _⟩
      obtain ⟨b1, o1, hA1, hl1, hc1⟩ := HX.out.1.form (by rw [HL.out]; omega) (by omega)
      obtain ⟨b2, o2, hA2, hl2, hc2⟩ := HY.out.1.form (by rw [HM.out]; omega) (by omega)
      try simp only at hA1 hA2
      subst hA1 hA2
      have HLT := Lib.hid hl1; clear hl1 hl2
      have e1 : w.cell? ⟨b1, o1 + j, none⟩ = some (.bool a) := by rw [hc1 _ (by rw [HL.out]; omega)]; simp only [bools, List.getElem?_map, ha, Option.map_some]
      have e2 : w.cell? ⟨b2, o2 + j, none⟩ = some (.bool b) := by rw [hc2 _ (by rw [HM.out]; omega)]; simp only [bools, List.getElem?_map, hb, Option.map_some]
      clear hc1 hc2
      have HAB : Hid (l[j]? = some a ∧ m[j]? = some b) := ⟨ha, hb⟩
      clear ha hb
      by_cases hab : a = b
      · subst hab
        go_wp2_with fail
        go_region
        go_wp2
        go_roundg (n - (j + 1))
        case measure => have := HGK.out; omega
        case rel =>
         refine ⟨j + 1, q + 1, rfl, by omega, by go_num, rfl, fun i a' b' hi h1 h2 => ?_⟩
         by_cases e : i = j
         · subst e
           rw [HAB.out.1] at h1
           rw [HAB.out.2] at h2
           cases h1; cases h2; rfl
         · exact hpre.out i a' b' (by omega) h1 h2
      · obtain rfl : E = false := by
         rw [← HE.out]
         refine eqB_ne (fun h => hab ?_)
         have h1 := HAB.out.1
         rw [h, HAB.out.2] at h1
         exact (Option.some.inj h1).symm
        have hne : (a == b) = false := by simpa using hab
        go_wp2_with fail
        go_region
        go_wp2
        go_ret
        exact ⟨rfl, below_drewN _ _⟩
    · have hjn : j = n := by omega
      subst hjn
      obtain rfl : E = true := by
       rw [← HE.out]
       exact eqB_iff.2 (eq_of_upto (HL.out.trans HM.out.symm) (fun i a b hi => hpre.out i a b (by have := HL.out; omega)))
      go_wp2
      go_ret
      exact ⟨rfl, below_drewN _ _⟩
 · have hne : ¬ ((l.length : Int) = (m.length : Int)) := by omega
   have hEf : eqB l m = false := eqB_ne (fun h => hnm (by rw [h]))
   rw [hEf]
   clear hEf hnm
   show Calls _ _ #[.slice xA l.length xc, .slice yA m.length yc] _ _
   go_enter Tryz.func54, Tryz.ntmps54
   go_wp2
   go_ret
   exact ⟨rfl, Below.refl _ _⟩
set_option maxRecDepth 100000 in
set_option maxHeartbeats 2000000 in
theorem eq_marks (x y : SV) (l m : List KMark) (w : World) (hx : At w 5 x.A l.length x.c (l.flatMap KMark.cells)) (hy : At w 5 y.A m.length y.c (m.flatMap KMark.cells)) : Calls Tryz.prog 55 #[.slice x.A l.length x.c, .slice y.A m.length y.c] w (RetB (.bool (eqB l m)) w) := by
 obtain ⟨xA, xc⟩ := x
 obtain ⟨yA, yc⟩ := y
 have hb1 : l.length ≤ 9223372036854775807 := by have h1 := hx.2.2.1; have h2 := hx.2.2.2; unfold maxLen at h2; omega
 have hb2 : m.length ≤ 9223372036854775807 := by have h1 := hy.2.2.1; have h2 := hy.2.2.2; unfold maxLen at h2; omega
 have HX := Lib.hid hx; clear hx
 have HY := Lib.hid hy; clear hy
 by_cases hnm : l.length = m.length
 · have HNM := Lib.hid hnm; clear hnm
   obtain ⟨n, HL, HM⟩ : ∃ n, Hid (l.length = n) ∧ Hid (m.length = n) := ⟨l.length, rfl, HNM.out.symm⟩
   show Calls _ _ #[.slice xA l.length xc, .slice yA m.length yc] _ _
   rw [HL.out, HM.out]
   rw [HL.out] at hb1
   clear hb2
   generalize hE : eqB l m = E
   have HE := Lib.hid hE; clear hE
   go_enter Tryz.func55, Tryz.ntmps55
   go_wp2
   go_loopg [13] n (fun gk v13 wr => ∃ (j q : Nat), gk = n - j ∧ j ≤ n ∧ v13 = .int .i64 j ∧ wr = w.drewN q ∧ Hid (∀ (i : Nat) (a b : KMark), i < j → l[i]? = some a → m[i]? = some b → a = b))
   case atStart => exact ⟨0, 0, rfl, Nat.zero_le _, rfl, rfl, fun i a b h => by omega⟩
   case round =>
    obtain ⟨j, q, hgk, hj, rfl, rfl, hpre⟩ := hrel
    have HGK := Lib.hid hgk; clear hgk
    by_cases hlt : j < n
    · obtain ⟨a, ha⟩ : ∃ a, l[j]? = some a := ⟨l[j]'(by rw [HL.out]; exact hlt), List.getElem?_eq_getElem _⟩
      obtain ⟨b, hb⟩ : ∃ b, m[j]? = some b := ⟨m[j]'(by rw [HM.out]; exact hlt), List.getElem?_eq_getElem _⟩
      obtain ⟨b1, o1, hA1, hl1, hc1⟩ := HX.out.1.form (by rw [HL.out]; omega) (by omega)
      obtain ⟨b2, o2, hA2, hl2, hc2⟩ := HY.out.1.form (by rw [HM.out]; omega) (by omega)
      try simp only at hA1 hA2
      subst hA1 hA2
      have HLT := Lib.hid hl1; clear hl1 hl2
      obtain ⟨c0, c1, c2, c3, c4⟩ := a
      obtain ⟨d0, d1, d2, d3, d4⟩ := b
      have e0_0 : w.cell? ⟨b1, o1 + j * 5, none⟩ = some (.int .i64 c0) := by rw [hc1 _ (by rw [HL.out]; omega)]; exact get_flat KMark.cells 5 (fun _ => rfl) _ j 0 _ ha (by omega)
      have e0_1 : w.cell? ⟨b1, o1 + j * 5 + 1, none⟩ = some (.int .i64 c1) := by rw [Nat.add_assoc]; rw [hc1 _ (by rw [HL.out]; omega)]; exact get_flat KMark.cells 5 (fun _ => rfl) _ j 1 _ ha (by omega)
      have e0_2 : w.cell? ⟨b1, o1 + j * 5 + 2, none⟩ = some (.int .i64 c2) := by rw [Nat.add_assoc]; rw [hc1 _ (by rw [HL.out]; omega)]; exact get_flat KMark.cells 5 (fun _ => rfl) _ j 2 _ ha (by omega)
      have e0_3 : w.cell? ⟨b1, o1 + j * 5 + 3, none⟩ = some (.int .i64 c3) := by rw [Nat.add_assoc]; rw [hc1 _ (by rw [HL.out]; omega)]; exact get_flat KMark.cells 5 (fun _ => rfl) _ j 3 _ ha (by omega)
      have e0_4 : w.cell? ⟨b1, o1 + j * 5 + 4, none⟩ = some (.bool c4) := by rw [Nat.add_assoc]; rw [hc1 _ (by rw [HL.out]; omega)]; exact get_flat KMark.cells 5 (fun _ => rfl) _ j 4 _ ha (by omega)
      have e1_0 : w.cell? ⟨b2, o2 + j * 5, none⟩ = some (.int .i64 d0) := by rw [hc2 _ (by rw [HM.out]; omega)]; exact get_flat KMark.cells 5 (fun _ => rfl) _ j 0 _ hb (by omega)
      have e1_1 : w.cell? ⟨b2, o2 + j * 5 + 1, none⟩ = some (.int .i64 d1) := by rw [Nat.add_assoc]; rw [hc2 _ (by rw [HM.out]; omega)]; exact get_flat KMark.cells 5 (fun _ => rfl) _ j 1 _ hb (by omega)
      have e1_2 : w.cell? ⟨b2, o2 + j * 5 + 2, none⟩ = some (.int .i64 d2) := by rw [Nat.add_assoc]; rw [hc2 _ (by rw [HM.out]; omega)]; exact get_flat KMark.cells 5 (fun _ => rfl) _ j 2 _ hb (by omega)
      have e1_3 : w.cell? ⟨b2, o2 + j * 5 + 3, none⟩ = some (.int .i64 d3) := by rw [Nat.add_assoc]; rw [hc2 _ (by rw [HM.out]; omega)]; exact get_flat KMark.cells 5 (fun _ => rfl) _ j 3 _ hb (by omega)
      have e1_4 : w.cell? ⟨b2, o2 + j * 5 + 4, none⟩ = some (.bool d4) := by rw [Nat.add_assoc]; rw [hc2 _ (by rw [HM.out]; omega)]; exact get_flat KMark.cells 5 (fun _ => rfl) _ j 4 _ hb (by omega)
      clear hc1 hc2
      have HAB : Hid (l[j]? = some ⟨c0, c1, c2, c3, c4⟩ ∧ m[j]? = some ⟨d0, d1, d2, d3, d4⟩) := ⟨ha, hb⟩
      clear ha hb
      by_cases hab : (⟨c0, c1, c2, c3, c4⟩ : KMark) = ⟨d0, d1, d2, d3, d4⟩
      · cases hab
        go_wp2_with fail
        go_region
        go_wp2
        go_roundg (n - (j + 1))
        case measure => have := HGK.out; omega
        case rel =>
         refine ⟨j + 1, q + 1, rfl, by omega, by go_num, rfl, fun i a' b' hi h1 h2 => ?_⟩
         by_cases e : i = j
         · subst e
           rw [HAB.out.1] at h1
           rw [HAB.out.2] at h2
           cases h1; cases h2; rfl
         · exact hpre.out i a' b' (by omega) h1 h2
      · obtain rfl : E = false := by
         rw [← HE.out]
         refine eqB_ne (fun h => hab ?_)
         have h1 := HAB.out.1
         rw [h, HAB.out.2] at h1
         exact (Option.some.inj h1).symm
        have heq := fun (w : World) => run_neq_marks w c0 c1 c2 c3 d0 d1 d2 d3 c4 d4
        simp only [eqB_ne hab, Bool.not_false] at heq
        go_wp2_with fail
        go_region
        go_wp2
        go_ret
        exact ⟨rfl, below_drewN _ _⟩
    · have hjn : j = n := by omega
      subst hjn
      obtain rfl : E = true := by
       rw [← HE.out]
       exact eqB_iff.2 (eq_of_upto (HL.out.trans HM.out.symm) (fun i a b hi => hpre.out i a b (by have := HL.out; omega)))
      go_wp2
      go_ret
      exact ⟨rfl, below_drewN _ _⟩
 · have hne : ¬ ((l.length : Int) = (m.length : Int)) := by omega
   have hEf : eqB l m = false := eqB_ne (fun h => hnm (by rw [h]))
   rw [hEf]
   clear hEf hnm
   show Calls _ _ #[.slice xA l.length xc, .slice yA m.length yc] _ _
   go_enter Tryz.func55, Tryz.ntmps55
   go_wp2
   go_ret
   exact ⟨rfl, Below.refl _ _⟩
theorem eqB_state (s t : KState) : eqB s t = ((s.day == t.day) && (eqB s.holders t.holders && (eqB s.used t.used && eqB s.marks t.marks))) := by
 obtain ⟨a, b, c, d⟩ := s
 obtain ⟨a', b', c', d'⟩ := t
 by_cases h : (⟨a, b, c, d⟩ : KState) = ⟨a', b', c', d'⟩
 · cases h
   simp [eqB_self]
 · rw [eqB_ne h]
   cases h1 : (a == a') with
   | false => simp
   | true =>
    cases h2 : eqB b b' with
    | false => simp
    | true =>
     cases h3 : eqB c c' with
     | false => simp
     | true =>
      cases h4 : eqB d d' with
      | false => simp
      | true =>
       rw [eqB_iff] at h2 h3 h4
       rw [beq_iff_eq] at h1
       exact absurd (by rw [h1, h2, h3, h4]) h
set_option maxRecDepth 100000 in
set_option maxHeartbeats 2000000 in
theorem same_any (tv uv : TV) (s t : KState) (w : World) (hS : StateAt w tv s) (hT : StateAt w uv t) : Calls Tryz.prog 30 #[tv.val s, uv.val t] w (RetB (.bool (eqB s t)) w) := by
 obtain ⟨⟨thA, thc⟩, ⟨tuA, tuc⟩, ⟨tmA, tmc⟩⟩ := tv
 obtain ⟨⟨uhA, uhc⟩, ⟨uuA, uuc⟩, ⟨umA, umc⟩⟩ := uv
 have HS := Lib.hid hS; clear hS
 have HT := Lib.hid hT; clear hT
 simp only [TV.val, TV.cells, KState.cells]
 generalize hE : eqB s t = E
 rw [eqB_state] at hE
 have HE := Lib.hid hE; clear hE
 go_enter Tryz.func30, Tryz.ntmps30
 go_upto_region 1 with (fail)
 generalize hW0 : World.alloc _ _ = W0
 obtain ⟨HB, hh0, hh1⟩ := bx2 hW0
 clear hW0
 obtain ⟨k0_0, k0_1, k0_2, k0_3⟩ := kc4 hh0
 clear hh0
 obtain ⟨k1_0, k1_1, k1_2, k1_3⟩ := kc4 hh1
 clear hh1
 change Code.wp _ _ _ _ (Bl.val (⟨W0, Below.refl _ _⟩ : Bl W0))
 generalize (⟨W0, Below.refl _ _⟩ : Bl W0) = s0
 have H0 := Lib.hid (fun z : Bl W0 => eq_ints ⟨thA, thc⟩ ⟨uhA, uhc⟩ s.holders t.holders z.val (HS.out.holders.below (by omega) (Below.step HB.out z.prop)) (HT.out.holders.below (by omega) (Below.step HB.out z.prop)))
 have H1 := Lib.hid (fun z : Bl W0 => eq_bools ⟨tuA, tuc⟩ ⟨uuA, uuc⟩ s.used t.used z.val (HS.out.used.below (by omega) (Below.step HB.out z.prop)) (HT.out.used.below (by omega) (Below.step HB.out z.prop)))
 have H2 := Lib.hid (fun z : Bl W0 => eq_marks ⟨tmA, tmc⟩ ⟨umA, umc⟩ s.marks t.marks z.val (HS.out.marks.below (by omega) (Below.step HB.out z.prop)) (HT.out.marks.below (by omega) (Below.step HB.out z.prop)))
 cases q1 : (s.day == t.day) with
 | false =>
  obtain rfl : E = false := by rw [← HE.out, q1]; rfl
  go_wp2
  go_ret
  exact ⟨rfl, Below.step HB.out (Bl.prop _)⟩
 | true =>
  have q1' : s.day = t.day := by simpa using q1
  cases h0 : eqB s.holders t.holders <;> cases h1 : eqB s.used t.used <;> cases h2 : eqB s.marks t.marks
  all_goals
   rw [h0] at H0
   rw [h1] at H1
   rw [h2] at H2
   have hx := HE.out
   rw [q1, h0, h1, h2] at hx
   subst hx
   clear HE h0 h1 h2
   go_wp2_with (first | (go_at_call 53; refine (H0.out _).mono ?_; rintro e z ⟨rfl, hz⟩; obtain ⟨z, rfl⟩ := Bl.on hz; clear hz) | (go_at_call 54; refine (H1.out _).mono ?_; rintro e z ⟨rfl, hz⟩; obtain ⟨z, rfl⟩ := Bl.on hz; clear hz) | (go_at_call 55; refine (H2.out _).mono ?_; rintro e z ⟨rfl, hz⟩; obtain ⟨z, rfl⟩ := Bl.on hz; clear hz))
   go_ret
   exact ⟨rfl, Below.step HB.out (Bl.prop _)⟩
theorem hasB_iff {l : List KState} {s : KState} : l.any (fun x => eqB x s) = true ↔ s ∈ l := by
 rw [List.any_eq_true]
 exact ⟨fun ⟨x, hx, he⟩ => (eqB_iff.1 he) ▸ hx, fun h => ⟨s, h, eqB_self s⟩⟩
noncomputable def hasB (l : List KState) (s : KState) : Bool := l.any (fun x => eqB x s)
set_option maxRecDepth 100000 in
set_option maxHeartbeats 2000000 in
theorem has_any (p : Int) (sv : SV) (b : List KState) (tv : TV) (s : KState) (w : World) (hS : StatesAt w sv b) (hT : StateAt w tv s) : Calls Tryz.prog 23 #[.agg #[.int .i64 p, .slice sv.A b.length sv.c], tv.val s] w (RetB (.bool (hasB b s)) w) := by
 obtain ⟨⟨thA, thc⟩, ⟨tuA, tuc⟩, ⟨tmA, tmc⟩⟩ := tv
 obtain ⟨bA, bc⟩ := sv
 have hbx : b.length ≤ 9223372036854775807 := by obtain ⟨_, _, h, _⟩ := hS; have h1 := h.2.2.1; have h2 := h.2.2.2; unfold maxLen at h2; omega
 have HS := Lib.hid hS; clear hS
 have HT := Lib.hid hT; clear hT
 simp only [TV.val, TV.cells, KState.cells]
 generalize hE : hasB b s = E
 have HE := Lib.hid hE; clear hE
 go_enter Tryz.func23, Tryz.ntmps23
 go_upto_region 1 with (fail)
 generalize hW0 : World.alloc _ _ = W0
 obtain ⟨HB, hh0, hh1⟩ := bx2 hW0
 clear hW0
 obtain ⟨k0_0, k0_1⟩ := kc2 hh0
 clear hh0
 obtain ⟨k1_0, k1_1, k1_2, k1_3⟩ := kc4 hh1
 clear hh1
 change Code.wp _ _ _ _ (Bl.val (⟨W0, Below.refl _ _⟩ : Bl W0))
 generalize (⟨W0, Below.refl _ _⟩ : Bl W0) = s0
 go_wp2
 go_loopg [5] b.length (fun gk v5 wr => ∃ (j : Nat) (z : Bl W0), gk = b.length - j ∧ j ≤ b.length ∧ v5 = .int .i64 j ∧ wr = z.val ∧ Hid (∀ (i : Nat) (a : KState), i < j → b[i]? = some a → a ≠ s))
 case atStart => exact ⟨0, _, rfl, Nat.zero_le _, rfl, rfl, fun i a h => by omega⟩
 case round =>
  obtain ⟨j, z, hgk, hj, rfl, rfl, hpre⟩ := hrel
  have HGK := Lib.hid hgk; clear hgk
  by_cases hlt : j < b.length
  · obtain ⟨a, ha⟩ : ∃ a, b[j]? = some a := ⟨b[j], List.getElem?_eq_getElem hlt⟩
    obtain ⟨b1, o1, hA1, hl1, hc1⟩ := HS.out.form (by omega)
    obtain ⟨uv, hu, hc⟩ := hc1 j a ha
    try simp only at hA1
    subst hA1
    obtain ⟨⟨uhA, uhc⟩, ⟨uuA, uuc⟩, ⟨umA, umc⟩⟩ := uv
    have e0 : ∀ z : Bl W0, z.val.cell? ⟨b1, o1 + j * 4, none⟩ = some (.int .i64 a.day) := fun z => hc z.val (Below.step HB.out z.prop) 0 (by omega)
    have e1 : ∀ z : Bl W0, z.val.cell? ⟨b1, o1 + j * 4 + 1, none⟩ = some (.slice uhA a.holders.length uhc) := fun z => hc z.val (Below.step HB.out z.prop) 1 (by omega)
    have e2 : ∀ z : Bl W0, z.val.cell? ⟨b1, o1 + j * 4 + 2, none⟩ = some (.slice uuA a.used.length uuc) := fun z => hc z.val (Below.step HB.out z.prop) 2 (by omega)
    have e3 : ∀ z : Bl W0, z.val.cell? ⟨b1, o1 + j * 4 + 3, none⟩ = some (.slice umA a.marks.length umc) := fun z => hc z.val (Below.step HB.out z.prop) 3 (by omega)
    have HSA := Lib.hid (fun z : Bl W0 => same_any ⟨⟨uhA, uhc⟩, ⟨uuA, uuc⟩, ⟨umA, umc⟩⟩ ⟨⟨thA, thc⟩, ⟨tuA, tuc⟩, ⟨tmA, tmc⟩⟩ a s z.val (hu.below (Below.step HB.out z.prop)) (HT.out.below (Below.step HB.out z.prop)))
    simp only [TV.val, TV.cells, KState.cells] at HSA
    clear hc hc1 hu
    have HA := Lib.hid ha; clear ha
    have j1 : (j : Int) < (b.length : Int) := by omega
    cases q1 : eqB a s with
    | false =>
     rw [q1] at HSA
     go_wp2_with fail
     refine wp_region_bl (by kernel_rfl) (by kernel_rfl) ?_
     repeat (go_big_quiet_step ((first | (go_at_call 30; exact Calls.bl_of (HSA.out _)))))
     refine wpQuiet_nil ?_
     rintro _ ⟨zq, rfl⟩
     go_wp2
     go_roundg (b.length - (j + 1))
     case measure => have := HGK.out; omega
     case rel =>
      refine ⟨j + 1, _, rfl, by omega, by go_num, rfl, fun i a' hi h1 => ?_⟩
      by_cases e : i = j
      · subst e
        rw [HA.out] at h1
        cases h1
        intro h
        rw [h, eqB_self] at q1
        cases q1
      · exact hpre.out i a' (by omega) h1
    | true =>
     rw [q1] at HSA
     obtain rfl : E = true := by
      rw [← HE.out]
      exact hasB_iff.2 ((eqB_iff.1 q1) ▸ List.mem_of_getElem? HA.out)
     go_wp2_with fail
     refine wp_region_bl (by kernel_rfl) (by kernel_rfl) ?_
     repeat (go_big_quiet_step ((first | (go_at_call 30; exact Calls.bl_of (HSA.out _)))))
     refine wpQuiet_nil ?_
     rintro _ ⟨zq, rfl⟩
     go_wp2
     go_ret
     exact ⟨rfl, Below.step HB.out (Bl.prop _)⟩
  · have hjn : j = b.length := by omega
    subst hjn
    obtain rfl : E = false := by
     rw [← HE.out]
     cases h : hasB b s with
     | false => rfl
     | true =>
      obtain ⟨i, hi, he⟩ := List.mem_iff_getElem.1 (hasB_iff.1 h)
      exact absurd he (hpre.out i _ hi (List.getElem?_eq_getElem hi))
    go_wp2
    go_ret
    exact ⟨rfl, Below.step HB.out (Bl.prop _)⟩
end Go.Proofs.YtaielhafpmjkaaaGreatDoor
namespace Go.Proofs.YtaielhafpmjkaaaGreatDoor
open Go.RowKit
theorem RowAt.store {w : World} {e : TypeId} {size n c g off k : Nat} {xs : List Value} (h : RowAt w e size (.slice (some ⟨g, off, none⟩) n c) n xs (some g)) (hk : k < n * size) (u : Value) :
 RowAt (w.setCell ⟨g, off + k, none⟩ u) e size (.slice (some ⟨g, off, none⟩) n c) n (xs.set k u) (some g) := by
 refine ⟨by rw [List.length_set]; exact h.1, .inr ?_⟩
 rcases h.2 with ⟨h0, _, _⟩ | ⟨g', off', cap, cur, hb, hv, hg, h1, h2, h3, h4⟩
 · cases h0
 · injection hv with e1 _ e3
   injection e1 with e1
   injection e1 with e1 e4
   subst e1 e4 e3
   refine ⟨g, off, c, _, rfl, rfl, heap_setCell_same hg u, h1, h2, by simpa using h3, ?_⟩
   rw [Array.toList_setIfInBounds, ← h4]
   apply List.ext_getElem?
   intro j
   rw [List.getElem?_take, List.getElem?_set, List.getElem?_take, List.getElem?_drop, List.getElem?_drop, List.getElem?_set]
   by_cases hj : j < n * size
   · rw [if_pos hj, if_pos hj]
     have hlen : (List.take (n * size) (List.drop off cur.toList)).length = n * size := by rw [h4]; exact h.1
     by_cases ejk : k = j
     · subst ejk
       have h5 : off + k < cur.toList.length := by
        rw [List.length_take, List.length_drop] at hlen
        omega
       rw [if_pos rfl, if_pos h5, if_pos rfl, if_pos (by rw [hlen]; exact hj)]
     · rw [if_neg (by omega), if_neg ejk]
   · rw [if_neg hj, if_neg hj]
     split
     · rename_i ejk
       omega
     · rfl
theorem flat_set5 {l : List KMark} {i j : Nat} {m m' : KMark} {u : Value} (hm : l[i]? = some m) (hj : j < 5) (h : m.cells.set j u = m'.cells) : (l.flatMap KMark.cells).set (i * 5 + j) u = (l.set i m').flatMap KMark.cells := by
 induction l generalizing i with
 | nil => simp at hm
 | cons a l ih =>
  cases i with
  | zero =>
   simp at hm
   subst hm
   rw [List.flatMap_cons, List.set_cons_zero, List.flatMap_cons, Nat.zero_mul, Nat.zero_add, List.set_append_left _ _ (by simpa [KMark.cells] using hj), h]
  | succ i =>
   have h5 : a.cells.length = 5 := rfl
   rw [List.flatMap_cons, List.set_cons_succ, List.flatMap_cons, List.set_append_right _ _ (by omega), show (i + 1) * 5 + j - a.cells.length = i * 5 + j by rw [h5]; omega, ih (by simpa using hm)]
structure WorkAt (w0 w : World) (g : Nat) (v : CV) (C : KCon) (t : TV) (s : KState) (gh gu gm : Nat) : Prop where
 head : w.heap[g]? = some (.cells #[.int .i64 C.parties, .slice v.h.A C.holders.length v.h.c, .slice v.u.A C.units.length v.u.c, .slice v.a.A C.acts.length v.a.c, .slice v.k.A C.clauses.length v.k.c, .int .i64 C.days, .slice v.o.A C.off.length v.o.c, .int .i64 s.day, .slice t.h.A s.holders.length t.h.c, .slice t.u.A s.used.length t.u.c, .slice t.m.A s.marks.length t.m.c] 84 (0, 0))
 con : ConAt w0 v C
 below : Below w0.heap.size w0 w
 holders : RowAt w 3 1 (.slice t.h.A s.holders.length t.h.c) s.holders.length (ints s.holders) (some gh)
 used : RowAt w 4 1 (.slice t.u.A s.used.length t.u.c) s.used.length (bools s.used) (some gu)
 marks : RowAt w 57 5 (.slice t.m.A s.marks.length t.m.c) s.marks.length (s.marks.flatMap KMark.cells) (some gm)
 newG : w0.heap.size ≤ g
 newH : w0.heap.size ≤ gh
 newU : w0.heap.size ≤ gu
 newM : w0.heap.size ≤ gm
theorem RowAt.at0 {w : World} {e : TypeId} {size n c g : Nat} {A : Option Addr} {xs : List Value} (h : RowAt w e size (.slice A n c) n xs (some g)) :
 ∃ off, A = some ⟨g, off, none⟩ ∧ n ≤ c ∧ c ≤ maxLen ∧ g < w.heap.size ∧ (∀ j, j < n * size → w.cell? ⟨g, off + j, none⟩ = xs[j]?) ∧ (∀ j, w.frozen? ⟨g, j, none⟩ = false) := by
 rcases h.2 with ⟨_, _, h0⟩ | ⟨g', off, cap, cur, hb, hv, hg, h1, h2, h3, h4⟩
 · cases h0
 · injection hb with hb
   subst hb
   injection hv with e1 _ e3
   subst e1 e3
   refine ⟨off, rfl, h1, h2, lt_of_heap hg, fun j hj => ?_, fun j => by simp [World.frozen?, hg]⟩
   rw [cell_of_row w g (off + j) cur e (0, 0) hg, ← h4, List.getElem?_take, if_pos hj, List.getElem?_drop]
   simp
section
variable {w0 w : World} {g : Nat} {v : CV} {C : KCon} {t : TV} {s : KState} {gh gu gm : Nat} (h : WorkAt w0 w g v C t s gh gu gm)
include h
theorem WorkAt.cell (j : Nat) : w.cell? ⟨g, j, none⟩ = [Value.int .i64 C.parties, .slice v.h.A C.holders.length v.h.c, .slice v.u.A C.units.length v.u.c, .slice v.a.A C.acts.length v.a.c, .slice v.k.A C.clauses.length v.k.c, .int .i64 C.days, .slice v.o.A C.off.length v.o.c, .int .i64 s.day, .slice t.h.A s.holders.length t.h.c, .slice t.u.A s.used.length t.u.c, .slice t.m.A s.marks.length t.m.c][j]? := by
 rw [cell_of_row _ _ j _ _ _ h.head]
 exact List.getElem?_toArray
theorem WorkAt.gm_ne : g ≠ gm := fun e => by
 subst e
 rcases h.marks.2 with ⟨_, _, h0⟩ | ⟨g', off, cap, cur, hb, hv, hg, _⟩
 · cases h0
 · injection hb with hb
   subst hb
   have h2 := h.head.symm.trans hg
   simp at h2
end
theorem RowAt.block_type {w : World} {e : TypeId} {size n : Nat} {v : Value} {xs : List Value} {k : Nat} (h : RowAt w e size v n xs (some k)) : ∃ cur, w.heap[k]? = some (.cells cur e (0, 0)) := by
 rcases h.2 with ⟨_, _, h0⟩ | ⟨g', off, cap, cur, hb, hv, hg, _⟩
 · cases h0
 · injection hb with hb
   subst hb
   exact ⟨cur, hg⟩
theorem RowAt.blocks_ne {w : World} {e e' : TypeId} {size size' n n' : Nat} {v v' : Value} {xs xs' : List Value} {k k' : Nat} (h : RowAt w e size v n xs (some k)) (h' : RowAt w e' size' v' n' xs' (some k')) (hne : e ≠ e') : k ≠ k' := fun ek => by
 subst ek
 obtain ⟨c1, h1⟩ := h.block_type
 obtain ⟨c2, h2⟩ := h'.block_type
 have h3 := h1.symm.trans h2
 simp at h3
 exact hne h3.2
theorem WorkAt.setMarks {w0 w w' : World} {g : Nat} {v : CV} {C : KCon} {t : TV} {s : KState} {gh gu gm : Nat} (h : WorkAt w0 w g v C t s gh gu gm) (ms : List KMark) (hl : ms.length = s.marks.length)
 (hrow : RowAt w' 57 5 (.slice t.m.A s.marks.length t.m.c) s.marks.length (ms.flatMap KMark.cells) (some gm)) (hu : Upd (fun k => k = gm) w w') :
 WorkAt w0 w' g v C t ⟨s.day, s.holders, s.used, ms⟩ gh gu gm :=
 ⟨by simpa [hl] using hu.keep h.head h.gm_ne, h.con, h.below.trans (hu.below h.below.size (fun k hk => by rw [hk]; exact h.newM)),
  h.holders.keep hu (fun k hk e => by injection hk with hk; subst hk; exact h.holders.blocks_ne h.marks (by decide) e),
  h.used.keep hu (fun k hk e => by injection hk with hk; subst hk; exact h.used.blocks_ne h.marks (by decide) e),
  by simpa [hl] using hrow, h.newG, h.newH, h.newU, h.newM⟩
def KMark.ended (m : KMark) (st : Int) : KMark := ⟨st, 0, m.got, m.bearer, false⟩
def WorkPost (w0 : World) (g : Nat) (v : CV) (C : KCon) (t : TV) (s' : KState) (gh gu gm : Nat) (w : World) (e : Ending) (w' : World) : Prop :=
 e = .returned (.tuple #[]) ∧ WorkAt w0 w' g v C t s' gh gu gm ∧ w.heap.size ≤ w'.heap.size
def Works (g gh gu gm : Nat) (k : Nat) : Prop := k = g ∨ k = gh ∨ k = gu ∨ k = gm
def WorkPostU (w0 : World) (g : Nat) (v : CV) (C : KCon) (t : TV) (s' : KState) (gh gu gm : Nat) (w : World) (e : Ending) (w' : World) : Prop :=
 e = .returned (.tuple #[]) ∧ WorkAt w0 w' g v C t s' gh gu gm ∧ Upd (Works g gh gu gm) w w'
set_option maxRecDepth 100000 in
set_option maxHeartbeats 4000000 in
theorem end_any {w0 w : World} {g : Nat} {v : CV} {C : KCon} {t : TV} {s : KState} {gh gu gm : Nat} (h : WorkAt w0 w g v C t s gh gu gm) (i : Nat) (m : KMark) (hm : s.marks[i]? = some m) (st : Int) :
 Calls Tryz.prog 97 #[.pointer (some ⟨g, 0, none⟩), .int .i64 i, .int .i64 st] w (WorkPostU w0 g v C t ⟨s.day, s.holders, s.used, s.marks.set i (m.ended st)⟩ gh gu gm w) := by
 have him : i < s.marks.length := (List.getElem?_eq_some_iff.1 hm).1
 obtain ⟨off, hA, hc1, hc2, hgl, hcell, hfz⟩ := h.marks.at0
 obtain ⟨th, tu, ⟨tmA, tmc⟩⟩ := t
 simp only at hA hc1 hc2
 subst hA
 unfold maxLen at hc2
 have k10 : w.cell? ⟨g, 10, none⟩ = some (.slice (some ⟨gm, off, none⟩) s.marks.length tmc) := h.cell 10
 have hne := h.gm_ne
 obtain ⟨ms, ml, mg, mb, mp⟩ := m
 have hat : ∀ j, j < 5 → w.cell? ⟨gm, off + i * 5 + j, none⟩ = (KMark.cells ⟨ms, ml, mg, mb, mp⟩)[j]? := fun j hj => by
  rw [Nat.add_assoc, hcell _ (by omega)]
  exact get_flat KMark.cells 5 (fun _ => rfl) s.marks i j _ hm hj
 have m0 : w.cell? ⟨gm, off + i * 5, none⟩ = some (.int .i64 ms) := hat 0 (by omega)
 have m1 : w.cell? ⟨gm, off + i * 5 + 1, none⟩ = some (.int .i64 ml) := hat 1 (by omega)
 have m4 : w.cell? ⟨gm, off + i * 5 + 4, none⟩ = some (.bool mp) := hat 4 (by omega)
 have f0 := hfz (off + i * 5)
 have f1 := hfz (off + i * 5 + 1)
 have f4 := hfz (off + i * 5 + 4)
 clear hat hcell hfz
 have H := Lib.hid h; clear h
 have HM := Lib.hid hm; clear hm
 have i0 : (0 : Int) ≤ (i : Int) := by omega
 have i1 : (i : Int) < (s.marks.length : Int) := by omega
 have hk0 : ∀ (a : Value), (w.setCell ⟨gm, off + i * 5, none⟩ a).cell? ⟨g, 10, none⟩ = some (.slice (some ⟨gm, off, none⟩) s.marks.length tmc) := fun a => by
  rw [World.cell?_setCell_other _ _ _ _ (fun e => hne (by first | exact congrArg Addr.block e | exact (congrArg Addr.block e).symm))]
  exact k10
 go_enter Tryz.func97, Tryz.ntmps97
 go_wp2
 go_region
 all_goals
  go_wp2
  go_end0
  have hr1 := H.out.marks.store (k := i * 5) (by omega) (.int .i64 st)
  have hr2 : RowAt ((w.setCell ⟨gm, off + i * 5, none⟩ (.int .i64 st)).setCell ⟨gm, off + i * 5 + 1, none⟩ (.int .i64 0)) _ _ _ _ _ _ := hr1.store (k := i * 5 + 1) (by omega) (.int .i64 0)
  have hr3 : RowAt (((w.setCell ⟨gm, off + i * 5, none⟩ (.int .i64 st)).setCell ⟨gm, off + i * 5 + 1, none⟩ (.int .i64 0)).setCell ⟨gm, off + i * 5 + 4, none⟩ (.bool false)) _ _ _ _ _ _ := hr2.store (k := i * 5 + 4) (by omega) (.bool false)
  have e1 := flat_set5 (j := 0) (m' := ⟨st, ml, mg, mb, mp⟩) (u := .int .i64 st) HM.out (by omega) rfl
  have e2 := flat_set5 (l := s.marks.set i ⟨st, ml, mg, mb, mp⟩) (j := 1) (m := ⟨st, ml, mg, mb, mp⟩) (m' := ⟨st, 0, mg, mb, mp⟩) (u := .int .i64 0) (by rw [List.getElem?_set_self him]) (by omega) rfl
  have e3 := flat_set5 (l := s.marks.set i ⟨st, 0, mg, mb, mp⟩) (j := 4) (m := ⟨st, 0, mg, mb, mp⟩) (m' := ⟨st, 0, mg, mb, false⟩) (u := .bool false) (by rw [List.getElem?_set_self him]) (by omega) rfl
  rw [List.set_set] at e2 e3
  rw [Nat.add_zero] at e1
  rw [e1, e2, e3] at hr3
  have hu : Upd (fun k => k = gm) w (((w.setCell ⟨gm, off + i * 5, none⟩ (.int .i64 st)).setCell ⟨gm, off + i * 5 + 1, none⟩ (.int .i64 0)).setCell ⟨gm, off + i * 5 + 4, none⟩ (.bool false)).drew := ((((Upd.refl (fun k => k = gm) w).setCell (.inl rfl) _).setCell (.inl rfl) _).setCell (.inl rfl) _).drew
  refine ⟨rfl, H.out.setMarks _ (by simp) ?_ hu, hu.mono (fun _ _ h => .inr (.inr (.inr h)))⟩
  exact hr3.keep (S := fun _ => False) ((Upd.refl _ _).drew) (fun _ _ h => h)
end Go.Proofs.YtaielhafpmjkaaaGreatDoor
namespace Go.Proofs.YtaielhafpmjkaaaGreatDoor
open Go.RowKit
theorem WorkAt.keep {w0 w w' : World} {g : Nat} {v : CV} {C : KCon} {t : TV} {s : KState} {gh gu gm : Nat} (h : WorkAt w0 w g v C t s gh gu gm) (hu : Upd (fun _ => False) w w') : WorkAt w0 w' g v C t s gh gu gm :=
 ⟨hu.keep h.head (fun h => h), h.con, h.below.trans (hu.below h.below.size (fun _ hk => hk.elim)), h.holders.keep hu (fun _ _ h => h), h.used.keep hu (fun _ _ h => h), h.marks.keep hu (fun _ _ h => h), h.newG, h.newH, h.newU, h.newM⟩
theorem WorkAt.markCell {w0 w : World} {g : Nat} {v : CV} {C : KCon} {th tu : SV} {off tmc : Nat} {s : KState} {gh gu gm : Nat} (h : WorkAt w0 w g v C ⟨th, tu, ⟨some ⟨gm, off, none⟩, tmc⟩⟩ s gh gu gm) {i j : Nat} {m m' : KMark} {u : Value} (hm : s.marks[i]? = some m) (hj : j < 5) (hc : m.cells.set j u = m'.cells) :
 WorkAt w0 (w.setCell ⟨gm, off + i * 5 + j, none⟩ u) g v C ⟨th, tu, ⟨some ⟨gm, off, none⟩, tmc⟩⟩ ⟨s.day, s.holders, s.used, s.marks.set i m'⟩ gh gu gm := by
 have him : i < s.marks.length := (List.getElem?_eq_some_iff.1 hm).1
 have hr := h.marks.store (k := i * 5 + j) (by omega) u
 rw [flat_set5 hm hj hc] at hr
 rw [show off + i * 5 + j = off + (i * 5 + j) by omega]
 exact h.setMarks _ (by simp) hr ((Upd.refl (fun k => k = gm) w).setCell (.inl rfl) _)
theorem WorkAt.markAt {w0 w : World} {g : Nat} {v : CV} {C : KCon} {t : TV} {s : KState} {gh gu gm : Nat} (h : WorkAt w0 w g v C t s gh gu gm) {i : Nat} {m : KMark} (hm : s.marks[i]? = some m) :
 ∃ off, t.m.A = some ⟨gm, off, none⟩ ∧ gm < w.heap.size ∧ (∀ j, j < 5 → w.cell? ⟨gm, off + i * 5 + j, none⟩ = m.cells[j]?) ∧ (∀ j, w.frozen? ⟨gm, j, none⟩ = false) := by
 have him : i < s.marks.length := (List.getElem?_eq_some_iff.1 hm).1
 obtain ⟨off, hA, hc1, hc2, hgl, hcell, hfz⟩ := h.marks.at0
 refine ⟨off, hA, hgl, fun j hj => ?_, hfz⟩
 rw [Nat.add_assoc, hcell _ (by omega)]
 exact get_flat KMark.cells 5 (fun _ => rfl) s.marks i j _ hm hj
section
variable {w0 w : World} {g : Nat} {v : CV} {C : KCon} {t : TV} {s : KState} {gh gu gm : Nat}
theorem done_any (h : WorkAt w0 w g v C t s gh gu gm) (i : Nat) (m : KMark) (hm : s.marks[i]? = some m) :
 Calls Tryz.prog 65 #[.pointer (some ⟨g, 0, none⟩), .int .i64 i] w (WorkPostU w0 g v C t ⟨s.day, s.holders, s.used, s.marks.set i (m.ended 3)⟩ gh gu gm w) := by
 have hc := end_any h i m hm 3
 have HC := Lib.hid hc; clear hc h hm
 go_enter Tryz.func65, Tryz.ntmps65
 go_wp2_with fail
 refine HC.out.mono ?_
 rintro e z ⟨rfl, hz, hs⟩
 go_wp2
 go_end0
 exact ⟨rfl, hz, hs⟩
theorem lapse_any (h : WorkAt w0 w g v C t s gh gu gm) (i : Nat) (m : KMark) (hm : s.marks[i]? = some m) :
 Calls Tryz.prog 66 #[.pointer (some ⟨g, 0, none⟩), .int .i64 i] w (WorkPostU w0 g v C t ⟨s.day, s.holders, s.used, s.marks.set i (m.ended 5)⟩ gh gu gm w) := by
 have hc := end_any h i m hm 5
 have HC := Lib.hid hc; clear hc h hm
 go_enter Tryz.func66, Tryz.ntmps66
 go_wp2_with fail
 refine HC.out.mono ?_
 rintro e z ⟨rfl, hz, hs⟩
 go_wp2
 go_end0
 exact ⟨rfl, hz, hs⟩
theorem set_same {α : Type} {l : List α} {i : Nat} {x : α} (h : l[i]? = some x) : l.set i x = l := by
 apply List.ext_getElem?
 intro j
 rw [List.getElem?_set]
 split
 · rename_i e
   subst e
   have hi : i < l.length := (List.getElem?_eq_some_iff.1 h).1
   rw [if_pos hi, h]
 · rfl
def KMark.violated (m : KMark) : KMark := cond m.paused m (m.ended 4)
set_option maxHeartbeats 1000000 in
theorem violate_any (h : WorkAt w0 w g v C t s gh gu gm) (i : Nat) (m : KMark) (hm : s.marks[i]? = some m) :
 Calls Tryz.prog 71 #[.pointer (some ⟨g, 0, none⟩), .int .i64 i] w (WorkPostU w0 g v C t ⟨s.day, s.holders, s.used, s.marks.set i m.violated⟩ gh gu gm w) := by
 have him : i < s.marks.length := (List.getElem?_eq_some_iff.1 hm).1
 obtain ⟨off, hA, hgl, hcell, _⟩ := h.markAt hm
 obtain ⟨th, tu, ⟨tmA, tmc⟩⟩ := t
 simp only at hA
 subst hA
 have k10 : w.cell? ⟨g, 10, none⟩ = some (.slice (some ⟨gm, off, none⟩) s.marks.length tmc) := h.cell 10
 have m4 : w.cell? ⟨gm, off + i * 5 + 4, none⟩ = some (.bool m.paused) := hcell 4 (by omega)
 clear hcell
 have hc := end_any h i m hm 4
 have HC := Lib.hid hc; clear hc
 have i0 : (0 : Int) ≤ (i : Int) := by omega
 have i1 : (i : Int) < (s.marks.length : Int) := by omega
 obtain ⟨ms, ml, mg, mb, mp⟩ := m
 have H := Lib.hid h; clear h
 have HM := Lib.hid hm; clear hm
 cases mp with
 | true =>
  go_enter Tryz.func71, Tryz.ntmps71
  go_wp2
  go_end0
  refine ⟨rfl, ?_, Upd.refl _ _⟩
  have e : s.marks.set i (KMark.violated ⟨ms, ml, mg, mb, true⟩) = s.marks := set_same HM.out
  rw [e]
  exact H.out
 | false =>
  go_enter Tryz.func71, Tryz.ntmps71
  go_wp2_with fail
  refine HC.out.mono ?_
  rintro e z ⟨rfl, hz, hs⟩
  go_wp2
  go_end0
  exact ⟨rfl, hz, hs⟩
def KMark.performed (m : KMark) (need : Int) : KMark := cond (m.got + 1 == need) (KMark.ended ⟨m.status, m.left, m.got + 1, m.bearer, m.paused⟩ 3) ⟨m.status, m.left, m.got + 1, m.bearer, m.paused⟩
set_option maxRecDepth 100000 in
set_option maxHeartbeats 2000000 in
theorem perform_any (h : WorkAt w0 w g v C t s gh gu gm) (i : Nat) (m : KMark) (hm : s.marks[i]? = some m) (k : KClause) (hk : C.clauses[i]? = some k) (hg0 : 0 ≤ m.got) (hg1 : m.got ≤ 1000000) :
 Calls Tryz.prog 70 #[.pointer (some ⟨g, 0, none⟩), .int .i64 i] w (WorkPostU w0 g v C t ⟨s.day, s.holders, s.used, s.marks.set i (m.performed k.need)⟩ gh gu gm w) := by
 have him : i < s.marks.length := (List.getElem?_eq_some_iff.1 hm).1
 have hik : i < C.clauses.length := (List.getElem?_eq_some_iff.1 hk).1
 obtain ⟨off, hA, hgl, hcell, hfz⟩ := h.markAt hm
 obtain ⟨b, koff, st, hK, hbl, hkc, _⟩ := h.con.clause hk
 obtain ⟨th, tu, ⟨tmA, tmc⟩⟩ := t
 obtain ⟨vh, vu, va, ⟨kA, kcp⟩, vo⟩ := v
 simp only at hA hK
 subst hA hK
 have k10 : w.cell? ⟨g, 10, none⟩ = some (.slice (some ⟨gm, off, none⟩) s.marks.length tmc) := h.cell 10
 have m2 : w.cell? ⟨gm, off + i * 5 + 2, none⟩ = some (.int .i64 m.got) := hcell 2 (by omega)
 have f2 := hfz (off + i * 5 + 2)
 clear hcell hfz
 obtain ⟨ms, ml, mg, mb, mp⟩ := m
 simp only at hg0 hg1 m2
 have h1 : WorkAt w0 (w.setCell ⟨gm, off + i * 5 + 2, none⟩ (.int .i64 (mg + 1))) g ⟨vh, vu, va, ⟨some ⟨b, koff, none⟩, kcp⟩, vo⟩ C ⟨th, tu, ⟨some ⟨gm, off, none⟩, tmc⟩⟩ ⟨s.day, s.holders, s.used, s.marks.set i ⟨ms, ml, mg + 1, mb, mp⟩⟩ gh gu gm := h.markCell (m' := ⟨ms, ml, mg + 1, mb, mp⟩) hm (by omega) rfl
 generalize hn : k.need = nd
 have HN := Lib.hid hn; clear hn
 have i0 : (0 : Int) ≤ (i : Int) := by omega
 have i1 : (i : Int) < (s.marks.length : Int) := by omega
 have i2 : (i : Int) < (C.clauses.length : Int) := by omega
 have H := Lib.hid h; clear h
 have HM := Lib.hid hm; clear hm
 have HK := Lib.hid hk; clear hk
 go_enter Tryz.func70, Tryz.ntmps70
 go_upto_region 1 with (fail)
 obtain ⟨W1, HW1⟩ : ∃ W1, Hid (W1 = w.setCell ⟨gm, off + i * 5 + 2, none⟩ (.int .i64 (mg + 1))) := ⟨_, rfl⟩
 rw [← HW1.out] at h1 ⊢
 have k10' : W1.cell? ⟨g, 10, none⟩ = some (.slice (some ⟨gm, off, none⟩) s.marks.length tmc) := by have h := h1.cell 10; simpa using h
 have k4' : W1.cell? ⟨g, 4, none⟩ = some (.slice (some ⟨b, koff, none⟩) C.clauses.length kcp) := h1.cell 4
 obtain ⟨off', hA', _, hcell', _⟩ := h1.markAt (i := i) (m := ⟨ms, ml, mg + 1, mb, mp⟩) (by simp [him])
 simp only [Option.some.injEq, Addr.mk.injEq, true_and, and_true] at hA'
 subst hA'
 have m2' : W1.cell? ⟨gm, off + i * 5 + 2, none⟩ = some (.int .i64 (mg + 1)) := hcell' 2 (by omega)
 have c3 : W1.cell? ⟨b, koff + i * 16 + 3, none⟩ = some (.int .i64 nd) := by rw [← HN.out]; exact hkc W1 h1.below 3 (by omega)
 clear hcell' hkc k10 m2
 have hend : ∀ n : Nat, Calls Tryz.prog 97 #[.pointer (some ⟨g, 0, none⟩), .int .i64 i, .int .i64 3] (W1.drewN n) (WorkPostU w0 g ⟨vh, vu, va, ⟨some ⟨b, koff, none⟩, kcp⟩, vo⟩ C ⟨th, tu, ⟨some ⟨gm, off, none⟩, tmc⟩⟩ ⟨s.day, s.holders, s.used, (s.marks.set i ⟨ms, ml, mg + 1, mb, mp⟩).set i (KMark.ended ⟨ms, ml, mg + 1, mb, mp⟩ 3)⟩ gh gu gm (W1.drewN n)) := fun n =>
  end_any (h1.keep ((Upd.refl _ _).drewN n)) i ⟨ms, ml, mg + 1, mb, mp⟩ (by simp [him]) 3
 simp only [List.set_set] at hend
 have HEND := Lib.hid hend; clear hend
 have H1 := Lib.hid h1; clear h1
 have HSZ : Hid (Upd (Works g gh gu gm) w W1) := by show Upd _ _ _; rw [HW1.out]; exact (Upd.refl _ _).setCell (.inl (.inr (.inr (.inr rfl)))) _
 cases q : (mg + 1 == nd) with
 | true =>
  go_quiet (fail)
  go_wp2_with fail
  refine (HEND.out _).mono ?_
  rintro e z ⟨rfl, hz, hs⟩
  go_wp2
  go_end0
  refine ⟨rfl, ?_, (HSZ.out.drewN _).trans hs (fun _ _ h => h)⟩
  rw [KMark.performed, q]
  exact hz
 | false =>
  go_quiet (fail)
  go_wp2
  go_end0
  refine ⟨rfl, ?_, HSZ.out.drewN _⟩
  rw [KMark.performed, q]
  exact H1.out.keep ((Upd.refl _ _).drewN _)
end
end Go.Proofs.YtaielhafpmjkaaaGreatDoor
