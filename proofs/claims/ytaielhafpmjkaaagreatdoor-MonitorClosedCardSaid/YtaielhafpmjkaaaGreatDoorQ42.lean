/-
  Same
-/
import Derived.Test.YtaielhafpmjkaaaGreatDoorQ13
namespace Go.Proofs.YtaielhafpmjkaaaGreatDoor
open Go.RowKit
noncomputable def eqB {α : Type} (a b : α) : Bool := @decide (a = b) (Classical.propDecidable _)
theorem eqB_iff {α : Type} {a b : α} : eqB a b = true ↔ a = b := by unfold eqB; exact @decide_eq_true_iff _ (Classical.propDecidable _)
theorem eqB_self {α : Type} (a : α) : eqB a a = true := eqB_iff.2 rfl
theorem eqB_ne {α : Type} {a b : α} (h : a ≠ b) : eqB a b = false := by
 cases e : eqB a b with
 | false => rfl
 | true => exact absurd (eqB_iff.1 e) h
theorem eq_of_upto {α : Type} {l m : List α} (hl : l.length = m.length) (h : ∀ (i : Nat) (a b : α), i < l.length → l[i]? = some a → m[i]? = some b → a = b) : l = m := by
 apply List.ext_getElem hl
 intro i h1 h2
 exact h i _ _ h1 (List.getElem?_eq_getElem h1) (List.getElem?_eq_getElem h2)
theorem run_neq_marks (w : World) (a0 a1 a2 a3 b0 b1 b2 b3 : Int) (a4 b4 : Bool) : (binOp .neq 57 (.agg #[.int .i64 a0, .int .i64 a1, .int .i64 a2, .int .i64 a3, .bool a4]) (.agg #[.int .i64 b0, .int .i64 b1, .int .i64 b2, .int .i64 b3, .bool b4])).run Tryz.prog w = .ok (.bool (!(eqB (⟨a0, a1, a2, a3, a4⟩ : KMark) ⟨b0, b1, b2, b3, b4⟩))) w := by
 rw [run_neq_struct]
 go_simp
 by_cases h : (⟨a0, a1, a2, a3, a4⟩ : KMark) = ⟨b0, b1, b2, b3, b4⟩
 · rw [eqB_iff.2 h]
   cases h
   simp
 · rw [eqB_ne h]
   simp only [KMark.mk.injEq] at h
   by_cases h1 : a0 = b0 <;> by_cases h2 : a1 = b1 <;> by_cases h3 : a2 = b2 <;> by_cases h4 : a3 = b3 <;> cases a4 <;> cases b4 <;> simp_all
set_option maxRecDepth 100000 in
set_option maxHeartbeats 2000000 in
theorem eq_ints (x y : SV) (l m : List Int) (w : World) (hx : At w 1 x.A l.length x.c (ints l)) (hy : At w 1 y.A m.length y.c (ints m)) : Calls Tryz.prog 53 #[.slice x.A l.length x.c, .slice y.A m.length y.c] w (RetB (.bool (eqB l m)) w) := by
 obtain ⟨xA, xc⟩ := x
 obtain ⟨yA, yc⟩ := y
 have hb1 : l.length ≤ 9223372036854775807 := by have h1 := hx.2.2.1; have h2 := hx.2.2.2; unfold maxLen at h2; omega
 have hb2 : m.length ≤ 9223372036854775807 := by have h1 := hy.2.2.1; have h2 := hy.2.2.2; unfold maxLen at h2; omega
 have HX := Lib.hid hx; clear hx
 have HY := Lib.hid hy; clear hy
 by_cases hnm : l.length = m.length
 · have HNM := Lib.hid hnm; clear hnm
   obtain ⟨n, HL, HM⟩ : ∃ n, Hid (l.length = n) ∧ Hid (m.length = n) := ⟨l.length, rfl, HNM.out.symm⟩
   show Calls _ _ #[.slice xA l.length xc, .slice yA m.length yc] _ _
   rw [HL.out, HM.out]
   rw [HL.out] at hb1
   clear hb2
   generalize hE : eqB l m = E
   have HE := Lib.hid hE; clear hE
   go_enter Tryz.func53, Tryz.ntmps53
   go_wp2
   go_loopg [13] n (fun gk v13 wr => ∃ (j q : Nat), gk = n - j ∧ j ≤ n ∧ v13 = .int .i64 j ∧ wr = w.drewN q ∧ Hid (∀ (i : Nat) (a b : Int), i < j → l[i]? = some a → m[i]? = some b → a = b))
   case atStart => exact ⟨0, 0, rfl, Nat.zero_le _, rfl, rfl, fun i a b h => by omega⟩
   case round =>
    obtain ⟨j, q, hgk, hj, rfl, rfl, hpre⟩ := hrel
    have HGK := Lib.hid hgk; clear hgk
    by_cases hlt : j < n
    · obtain ⟨a, ha⟩ : ∃ a, l[j]? = some a := ⟨l[j]'(by rw [HL.out]; exact hlt), List.getElem?_eq_getElem _⟩
      obtain ⟨b, hb⟩ : ∃ b, m[j]? = some b := ⟨m[j]'(by rw [HM.out]; exact hlt), List.getElem?_eq_getElem _⟩
      obtain ⟨b1, o1, hA1, hl1, hc1⟩ := HX.out.1.form (by rw [HL.out]; omega) (by omega)
      obtain ⟨b2, o2, hA2, hl2, hc2⟩ := HY.out.1.form (by rw [HM.out]; omega) (by omega)
      try simp only at hA1 hA2
      subst hA1 hA2
      have HLT := Lib.hid hl1; clear hl1 hl2
      have e1 : w.cell? ⟨b1, o1 + j, none⟩ = some (.int .i64 a) := by rw [hc1 _ (by rw [HL.out]; omega)]; simp only [ints, List.getElem?_map, ha, Option.map_some]
      have e2 : w.cell? ⟨b2, o2 + j, none⟩ = some (.int .i64 b) := by rw [hc2 _ (by rw [HM.out]; omega)]; simp only [ints, List.getElem?_map, hb, Option.map_some]
      clear hc1 hc2
      have HAB : Hid (l[j]? = some a ∧ m[j]? = some b) := ⟨ha, hb⟩
      clear ha hb
      by_cases hab : a = b
      · subst hab
        go_wp2_with fail
        go_region
        go_wp2
        go_roundg (n - (j + 1))
        case measure => have := HGK.out; omega
        case rel =>
         refine ⟨j + 1, q + 1, rfl, by omega, by go_num, rfl, fun i a' b' hi h1 h2 => ?_⟩
         by_cases e : i = j
         · subst e
           rw [HAB.out.1] at h1
           rw [HAB.out.2] at h2
           cases h1; cases h2; rfl
         · exact hpre.out i a' b' (by omega) h1 h2
      · obtain rfl : E = false := by
         rw [← HE.out]
         refine eqB_ne (fun h => hab ?_)
         have h1 := HAB.out.1
         rw [h, HAB.out.2] at h1
         exact (Option.some.inj h1).symm
        go_wp2_with fail
        go_region
        go_wp2
        go_ret
        exact ⟨rfl, below_drewN _ _⟩
    · have hjn : j = n := by omega
      subst hjn
      obtain rfl : E = true := by
       rw [← HE.out]
       exact eqB_iff.2 (eq_of_upto (HL.out.trans HM.out.symm) (fun i a b hi => hpre.out i a b (by have := HL.out; omega)))
      go_wp2
      go_ret
      exact ⟨rfl, below_drewN _ _⟩
 · have hne : ¬ ((l.length : Int) = (m.length : Int)) := by omega
   have hEf : eqB l m = false := eqB_ne (fun h => hnm (by rw [h]))
   rw [hEf]
   clear hEf hnm
   show Calls _ _ #[.slice xA l.length xc, .slice yA m.length yc] _ _
   go_enter Tryz.func53, Tryz.ntmps53
   go_wp2
   go_ret
   exact ⟨rfl, Below.refl _ _⟩
set_option maxRecDepth 100000 in
set_option maxHeartbeats 2000000 in
theorem eq_bools (x y : SV) (l m : List Bool) (w : World) (hx : At w 1 x.A l.length x.c (bools l)) (hy : At w 1 y.A m.length y.c (bools m)) : Calls Tryz.prog 54 #[.slice x.A l.length x.c, .slice y.A m.length y.c] w (RetB (.bool (eqB l m)) w) := by
 obtain ⟨xA, xc⟩ := x
 obtain ⟨yA, yc⟩ := y
 have hb1 : l.length ≤ 9223372036854775807 := by have h1 := hx.2.2.1; have h2 := hx.2.2.2; unfold maxLen at h2; omega
 have hb2 : m.length ≤ 9223372036854775807 := by have h1 := hy.2.2.1; have h2 := hy.2.2.2; unfold maxLen at h2; omega
 have HX := Lib.hid hx; clear hx
 have HY := Lib.hid hy; clear hy
 by_cases hnm : l.length = m.length
 · have HNM := Lib.hid hnm; clear hnm
   obtain ⟨n, HL, HM⟩ : ∃ n, Hid (l.length = n) ∧ Hid (m.length = n) := ⟨l.length, rfl, HNM.out.symm⟩
   show Calls _ _ #[.slice xA l.length xc, .slice yA m.length yc] _ _
   rw [HL.out, HM.out]
   rw [HL.out] at hb1
   clear hb2
   generalize hE : eqB l m = E
   have HE := Lib.hid hE; clear hE
   go_enter Tryz.func54, Tryz.ntmps54
   go_wp2
   go_loopg [13] n (fun gk v13 wr => ∃ (j q : Nat), gk = n - j ∧ j ≤ n ∧ v13 = .int .i64 j ∧ wr = w.drewN q ∧ Hid (∀ (i : Nat) (a b : Bool), i < j → l[i]? = some a → m[i]? = some b → a = b))
   case atStart => exact ⟨0, 0, rfl, Nat.zero_le _, rfl, rfl, fun i a b h => by omega⟩
   case round =>
    obtain ⟨j, q, hgk, hj, rfl, rfl, hpre⟩ := hrel
    have HGK := Lib.hid hgk; clear hgk
    by_cases hlt : j < n
    · obtain ⟨a, ha⟩ : ∃ a, l[j]? = some a := ⟨l[j]'(by rw [HL.out]; exact hlt), List.getElem?_eq_getElem _⟩
      obtain ⟨b, hb⟩ : ∃ b, m[j]? = some b := ⟨m[j]'(by rw [HM.out]; exact hlt), List.getElem?_eq_getElem _⟩
      obtain ⟨b1, o1, hA1, hl1, hc1⟩ := HX.out.1.form (by rw [HL.out]; omega) (by omega)
      obtain ⟨b2, o2, hA2, hl2, hc2⟩ := HY.out.1.form (by rw [HM.out]; omega) (by omega)
      try simp only at hA1 hA2
      subst hA1 hA2
      have HLT := Lib.hid hl1; clear hl1 hl2
      have e1 : w.cell? ⟨b1, o1 + j, none⟩ = some (.bool a) := by rw [hc1 _ (by rw [HL.out]; omega)]; simp only [bools, List.getElem?_map, ha, Option.map_some]
      have e2 : w.cell? ⟨b2, o2 + j, none⟩ = some (.bool b) := by rw [hc2 _ (by rw [HM.out]; omega)]; simp only [bools, List.getElem?_map, hb, Option.map_some]
      clear hc1 hc2
      have HAB : Hid (l[j]? = some a ∧ m[j]? = some b) := ⟨ha, hb⟩
      clear ha hb
      by_cases hab : a = b
      · subst hab
        go_wp2_with fail
        go_region
        go_wp2
        go_roundg (n - (j + 1))
        case measure => have := HGK.out; omega
        case rel =>
         refine ⟨j + 1, q + 1, rfl, by omega, by go_num, rfl, fun i a' b' hi h1 h2 => ?_⟩
         by_cases e : i = j
         · subst e
           rw [HAB.out.1] at h1
           rw [HAB.out.2] at h2
           cases h1; cases h2; rfl
         · exact hpre.out i a' b' (by omega) h1 h2
      · obtain rfl : E = false := by
         rw [← HE.out]
         refine eqB_ne (fun h => hab ?_)
         have h1 := HAB.out.1
         rw [h, HAB.out.2] at h1
         exact (Option.some.inj h1).symm
        have hne : (a == b) = false := by simpa using hab
        go_wp2_with fail
        go_region
        go_wp2
        go_ret
        exact ⟨rfl, below_drewN _ _⟩
    · have hjn : j = n := by omega
      subst hjn
      obtain rfl : E = true := by
       rw [← HE.out]
       exact eqB_iff.2 (eq_of_upto (HL.out.trans HM.out.symm) (fun i a b hi => hpre.out i a b (by have := HL.out; omega)))
      go_wp2
      go_ret
      exact ⟨rfl, below_drewN _ _⟩
 · have hne : ¬ ((l.length : Int) = (m.length : Int)) := by omega
   have hEf : eqB l m = false := eqB_ne (fun h => hnm (by rw [h]))
   rw [hEf]
   clear hEf hnm
   show Calls _ _ #[.slice xA l.length xc, .slice yA m.length yc] _ _
   go_enter Tryz.func54, Tryz.ntmps54
   go_wp2
   go_ret
   exact ⟨rfl, Below.refl _ _⟩
set_option maxRecDepth 100000 in
set_option maxHeartbeats 2000000 in
theorem eq_marks (x y : SV) (l m : List KMark) (w : World) (hx : At w 5 x.A l.length x.c (l.flatMap KMark.cells)) (hy : At w 5 y.A m.length y.c (m.flatMap KMark.cells)) : Calls Tryz.prog 55 #[.slice x.A l.length x.c, .slice y.A m.length y.c] w (RetB (.bool (eqB l m)) w) := by
 obtain ⟨xA, xc⟩ := x
 obtain ⟨yA, yc⟩ := y
 have hb1 : l.length ≤ 9223372036854775807 := by have h1 := hx.2.2.1; have h2 := hx.2.2.2; unfold maxLen at h2; omega
 have hb2 : m.length ≤ 9223372036854775807 := by have h1 := hy.2.2.1; have h2 := hy.2.2.2; unfold maxLen at h2; omega
 have HX := Lib.hid hx; clear hx
 have HY := Lib.hid hy; clear hy
 by_cases hnm : l.length = m.length
 · have HNM := Lib.hid hnm; clear hnm
   obtain ⟨n, HL, HM⟩ : ∃ n, Hid (l.length = n) ∧ Hid (m.length = n) := ⟨l.length, rfl, HNM.out.symm⟩
   show Calls _ _ #[.slice xA l.length xc, .slice yA m.length yc] _ _
   rw [HL.out, HM.out]
   rw [HL.out] at hb1
   clear hb2
   generalize hE : eqB l m = E
   have HE := Lib.hid hE; clear hE
   go_enter Tryz.func55, Tryz.ntmps55
   go_wp2
   go_loopg [13] n (fun gk v13 wr => ∃ (j q : Nat), gk = n - j ∧ j ≤ n ∧ v13 = .int .i64 j ∧ wr = w.drewN q ∧ Hid (∀ (i : Nat) (a b : KMark), i < j → l[i]? = some a → m[i]? = some b → a = b))
   case atStart => exact ⟨0, 0, rfl, Nat.zero_le _, rfl, rfl, fun i a b h => by omega⟩
   case round =>
    obtain ⟨j, q, hgk, hj, rfl, rfl, hpre⟩ := hrel
    have HGK := Lib.hid hgk; clear hgk
    by_cases hlt : j < n
    · obtain ⟨a, ha⟩ : ∃ a, l[j]? = some a := ⟨l[j]'(by rw [HL.out]; exact hlt), List.getElem?_eq_getElem _⟩
      obtain ⟨b, hb⟩ : ∃ b, m[j]? = some b := ⟨m[j]'(by rw [HM.out]; exact hlt), List.getElem?_eq_getElem _⟩
      obtain ⟨b1, o1, hA1, hl1, hc1⟩ := HX.out.1.form (by rw [HL.out]; omega) (by omega)
      obtain ⟨b2, o2, hA2, hl2, hc2⟩ := HY.out.1.form (by rw [HM.out]; omega) (by omega)
      try simp only at hA1 hA2
      subst hA1 hA2
      have HLT := Lib.hid hl1; clear hl1 hl2
      obtain ⟨c0, c1, c2, c3, c4⟩ := a
      obtain ⟨d0, d1, d2, d3, d4⟩ := b
      have e0_0 : w.cell? ⟨b1, o1 + j * 5, none⟩ = some (.int .i64 c0) := by rw [hc1 _ (by rw [HL.out]; omega)]; exact get_flat KMark.cells 5 (fun _ => rfl) _ j 0 _ ha (by omega)
      have e0_1 : w.cell? ⟨b1, o1 + j * 5 + 1, none⟩ = some (.int .i64 c1) := by rw [Nat.add_assoc]; rw [hc1 _ (by rw [HL.out]; omega)]; exact get_flat KMark.cells 5 (fun _ => rfl) _ j 1 _ ha (by omega)
      have e0_2 : w.cell? ⟨b1, o1 + j * 5 + 2, none⟩ = some (.int .i64 c2) := by rw [Nat.add_assoc]; rw [hc1 _ (by rw [HL.out]; omega)]; exact get_flat KMark.cells 5 (fun _ => rfl) _ j 2 _ ha (by omega)
      have e0_3 : w.cell? ⟨b1, o1 + j * 5 + 3, none⟩ = some (.int .i64 c3) := by rw [Nat.add_assoc]; rw [hc1 _ (by rw [HL.out]; omega)]; exact get_flat KMark.cells 5 (fun _ => rfl) _ j 3 _ ha (by omega)
      have e0_4 : w.cell? ⟨b1, o1 + j * 5 + 4, none⟩ = some (.bool c4) := by rw [Nat.add_assoc]; rw [hc1 _ (by rw [HL.out]; omega)]; exact get_flat KMark.cells 5 (fun _ => rfl) _ j 4 _ ha (by omega)
      have e1_0 : w.cell? ⟨b2, o2 + j * 5, none⟩ = some (.int .i64 d0) := by rw [hc2 _ (by rw [HM.out]; omega)]; exact get_flat KMark.cells 5 (fun _ => rfl) _ j 0 _ hb (by omega)
      have e1_1 : w.cell? ⟨b2, o2 + j * 5 + 1, none⟩ = some (.int .i64 d1) := by rw [Nat.add_assoc]; rw [hc2 _ (by rw [HM.out]; omega)]; exact get_flat KMark.cells 5 (fun _ => rfl) _ j 1 _ hb (by omega)
      have e1_2 : w.cell? ⟨b2, o2 + j * 5 + 2, none⟩ = some (.int .i64 d2) := by rw [Nat.add_assoc]; rw [hc2 _ (by rw [HM.out]; omega)]; exact get_flat KMark.cells 5 (fun _ => rfl) _ j 2 _ hb (by omega)
      have e1_3 : w.cell? ⟨b2, o2 + j * 5 + 3, none⟩ = some (.int .i64 d3) := by rw [Nat.add_assoc]; rw [hc2 _ (by rw [HM.out]; omega)]; exact get_flat KMark.cells 5 (fun _ => rfl) _ j 3 _ hb (by omega)
      have e1_4 : w.cell? ⟨b2, o2 + j * 5 + 4, none⟩ = some (.bool d4) := by rw [Nat.add_assoc]; rw [hc2 _ (by rw [HM.out]; omega)]; exact get_flat KMark.cells 5 (fun _ => rfl) _ j 4 _ hb (by omega)
      clear hc1 hc2
      have HAB : Hid (l[j]? = some ⟨c0, c1, c2, c3, c4⟩ ∧ m[j]? = some ⟨d0, d1, d2, d3, d4⟩) := ⟨ha, hb⟩
      clear ha hb
      by_cases hab : (⟨c0, c1, c2, c3, c4⟩ : KMark) = ⟨d0, d1, d2, d3, d4⟩
      · cases hab
        go_wp2_with fail
        go_region
        go_wp2
        go_roundg (n - (j + 1))
        case measure => have := HGK.out; omega
        case rel =>
         refine ⟨j + 1, q + 1, rfl, by omega, by go_num, rfl, fun i a' b' hi h1 h2 => ?_⟩
         by_cases e : i = j
         · subst e
           rw [HAB.out.1] at h1
           rw [HAB.out.2] at h2
           cases h1; cases h2; rfl
         · exact hpre.out i a' b' (by omega) h1 h2
      · obtain rfl : E = false := by
         rw [← HE.out]
         refine eqB_ne (fun h => hab ?_)
         have h1 := HAB.out.1
         rw [h, HAB.out.2] at h1
         exact (Option.some.inj h1).symm
        have heq := fun (w : World) => run_neq_marks w c0 c1 c2 c3 d0 d1 d2 d3 c4 d4
        simp only [eqB_ne hab, Bool.not_false] at heq
        go_wp2_with fail
        go_region
        go_wp2
        go_ret
        exact ⟨rfl, below_drewN _ _⟩
    · have hjn : j = n := by omega
      subst hjn
      obtain rfl : E = true := by
       rw [← HE.out]
       exact eqB_iff.2 (eq_of_upto (HL.out.trans HM.out.symm) (fun i a b hi => hpre.out i a b (by have := HL.out; omega)))
      go_wp2
      go_ret
      exact ⟨rfl, below_drewN _ _⟩
 · have hne : ¬ ((l.length : Int) = (m.length : Int)) := by omega
   have hEf : eqB l m = false := eqB_ne (fun h => hnm (by rw [h]))
   rw [hEf]
   clear hEf hnm
   show Calls _ _ #[.slice xA l.length xc, .slice yA m.length yc] _ _
   go_enter Tryz.func55, Tryz.ntmps55
   go_wp2
   go_ret
   exact ⟨rfl, Below.refl _ _⟩
theorem eqB_state (s t : KState) : eqB s t = ((s.day == t.day) && (eqB s.holders t.holders && (eqB s.used t.used && eqB s.marks t.marks))) := by
 obtain ⟨a, b, c, d⟩ := s
 obtain ⟨a', b', c', d'⟩ := t
 by_cases h : (⟨a, b, c, d⟩ : KState) = ⟨a', b', c', d'⟩
 · cases h
   simp [eqB_self]
 · rw [eqB_ne h]
   cases h1 : (a == a') with
   | false => simp
   | true =>
    cases h2 : eqB b b' with
    | false => simp
    | true =>
     cases h3 : eqB c c' with
     | false => simp
     | true =>
      cases h4 : eqB d d' with
      | false => simp
      | true =>
       rw [eqB_iff] at h2 h3 h4
       rw [beq_iff_eq] at h1
       exact absurd (by rw [h1, h2, h3, h4]) h
set_option maxRecDepth 100000 in
set_option maxHeartbeats 2000000 in
theorem same_any (tv uv : TV) (s t : KState) (w : World) (hS : StateAt w tv s) (hT : StateAt w uv t) : Calls Tryz.prog 30 #[tv.val s, uv.val t] w (RetB (.bool (eqB s t)) w) := by
 obtain ⟨⟨thA, thc⟩, ⟨tuA, tuc⟩, ⟨tmA, tmc⟩⟩ := tv
 obtain ⟨⟨uhA, uhc⟩, ⟨uuA, uuc⟩, ⟨umA, umc⟩⟩ := uv
 have HS := Lib.hid hS; clear hS
 have HT := Lib.hid hT; clear hT
 simp only [TV.val, TV.cells, KState.cells]
 generalize hE : eqB s t = E
 rw [eqB_state] at hE
 have HE := Lib.hid hE; clear hE
 go_enter Tryz.func30, Tryz.ntmps30
 go_upto_region 1 with (fail)
 obtain ⟨W0, HW0⟩ : ∃ W0, Hid (W0 = (w.alloc (.cells #[.int .i64 s.day, .slice thA s.holders.length thc, .slice tuA s.used.length tuc, .slice tmA s.marks.length tmc] 43)).alloc (.cells #[.int .i64 t.day, .slice uhA t.holders.length uhc, .slice uuA t.used.length uuc, .slice umA t.marks.length umc] 43)) := ⟨_, rfl⟩
 have hh0 : W0.heap[w.heap.size]? = some (.cells #[.int .i64 s.day, .slice thA s.holders.length thc, .slice tuA s.used.length tuc, .slice tmA s.marks.length tmc] 43 (0, 0)) := by rw [HW0.out]; exact (Below.heap_alloc (w.alloc (.cells #[.int .i64 s.day, .slice thA s.holders.length thc, .slice tuA s.used.length tuc, .slice tmA s.marks.length tmc] 43)) _ (w.heap.size) (by simp)).trans (heap_alloc_new w (.cells #[.int .i64 s.day, .slice thA s.holders.length thc, .slice tuA s.used.length tuc, .slice tmA s.marks.length tmc] 43))
 have k0_0 : ∀ z : Bl W0, z.val.cell? ⟨w.heap.size, 0, none⟩ = some (.int .i64 s.day) := fun z => z.cell ((cell_of_row W0 _ 0 _ _ _ hh0).trans rfl)
 have k0_1 : ∀ z : Bl W0, z.val.cell? ⟨w.heap.size, 1, none⟩ = some (.slice thA s.holders.length thc) := fun z => z.cell ((cell_of_row W0 _ 1 _ _ _ hh0).trans rfl)
 have k0_2 : ∀ z : Bl W0, z.val.cell? ⟨w.heap.size, 2, none⟩ = some (.slice tuA s.used.length tuc) := fun z => z.cell ((cell_of_row W0 _ 2 _ _ _ hh0).trans rfl)
 have k0_3 : ∀ z : Bl W0, z.val.cell? ⟨w.heap.size, 3, none⟩ = some (.slice tmA s.marks.length tmc) := fun z => z.cell ((cell_of_row W0 _ 3 _ _ _ hh0).trans rfl)
 clear hh0
 have hh1 : W0.heap[w.heap.size + 1]? = some (.cells #[.int .i64 t.day, .slice uhA t.holders.length uhc, .slice uuA t.used.length uuc, .slice umA t.marks.length umc] 43 (0, 0)) := by rw [HW0.out]; exact (by have h := heap_alloc_new (w.alloc (.cells #[.int .i64 s.day, .slice thA s.holders.length thc, .slice tuA s.used.length tuc, .slice tmA s.marks.length tmc] 43)) (.cells #[.int .i64 t.day, .slice uhA t.holders.length uhc, .slice uuA t.used.length uuc, .slice umA t.marks.length umc] 43); simp only [World.size_alloc] at h; exact h)
 have k1_0 : ∀ z : Bl W0, z.val.cell? ⟨w.heap.size + 1, 0, none⟩ = some (.int .i64 t.day) := fun z => z.cell ((cell_of_row W0 _ 0 _ _ _ hh1).trans rfl)
 have k1_1 : ∀ z : Bl W0, z.val.cell? ⟨w.heap.size + 1, 1, none⟩ = some (.slice uhA t.holders.length uhc) := fun z => z.cell ((cell_of_row W0 _ 1 _ _ _ hh1).trans rfl)
 have k1_2 : ∀ z : Bl W0, z.val.cell? ⟨w.heap.size + 1, 2, none⟩ = some (.slice uuA t.used.length uuc) := fun z => z.cell ((cell_of_row W0 _ 2 _ _ _ hh1).trans rfl)
 have k1_3 : ∀ z : Bl W0, z.val.cell? ⟨w.heap.size + 1, 3, none⟩ = some (.slice umA t.marks.length umc) := fun z => z.cell ((cell_of_row W0 _ 3 _ _ _ hh1).trans rfl)
 clear hh1
 have HB : Hid (Below w.heap.size w W0) := by show Below _ _ _; rw [HW0.out]; exact Below.alloc' (Below.alloc' (Below.refl _ _) _) _
 rw [← HW0.out]
 change Code.wp _ _ _ _ (Bl.val (⟨W0, Below.refl _ _⟩ : Bl W0))
 generalize (⟨W0, Below.refl _ _⟩ : Bl W0) = s0
 have H0 := Lib.hid (fun z : Bl W0 => eq_ints ⟨thA, thc⟩ ⟨uhA, uhc⟩ s.holders t.holders z.val (HS.out.holders.below (by omega) (Below.step HB.out z.prop)) (HT.out.holders.below (by omega) (Below.step HB.out z.prop)))
 have H1 := Lib.hid (fun z : Bl W0 => eq_bools ⟨tuA, tuc⟩ ⟨uuA, uuc⟩ s.used t.used z.val (HS.out.used.below (by omega) (Below.step HB.out z.prop)) (HT.out.used.below (by omega) (Below.step HB.out z.prop)))
 have H2 := Lib.hid (fun z : Bl W0 => eq_marks ⟨tmA, tmc⟩ ⟨umA, umc⟩ s.marks t.marks z.val (HS.out.marks.below (by omega) (Below.step HB.out z.prop)) (HT.out.marks.below (by omega) (Below.step HB.out z.prop)))
 cases q1 : (s.day == t.day) with
 | false =>
  obtain rfl : E = false := by rw [← HE.out, q1]; rfl
  go_wp2
  go_ret
  exact ⟨rfl, Below.step HB.out (Bl.prop _)⟩
 | true =>
  have q1' : s.day = t.day := by simpa using q1
  cases h0 : eqB s.holders t.holders <;> cases h1 : eqB s.used t.used <;> cases h2 : eqB s.marks t.marks
  all_goals
   rw [h0] at H0
   rw [h1] at H1
   rw [h2] at H2
   have hx := HE.out
   rw [q1, h0, h1, h2] at hx
   subst hx
   clear HE h0 h1 h2
   go_wp2_with (first | (go_at_call 53; refine (H0.out _).mono ?_; rintro e z ⟨rfl, hz⟩; obtain ⟨z, rfl⟩ := Bl.on hz; clear hz) | (go_at_call 54; refine (H1.out _).mono ?_; rintro e z ⟨rfl, hz⟩; obtain ⟨z, rfl⟩ := Bl.on hz; clear hz) | (go_at_call 55; refine (H2.out _).mono ?_; rintro e z ⟨rfl, hz⟩; obtain ⟨z, rfl⟩ := Bl.on hz; clear hz))
   go_ret
   exact ⟨rfl, Below.step HB.out (Bl.prop _)⟩
theorem hasB_iff {l : List KState} {s : KState} : l.any (fun x => eqB x s) = true ↔ s ∈ l := by
 rw [List.any_eq_true]
 exact ⟨fun ⟨x, hx, he⟩ => (eqB_iff.1 he) ▸ hx, fun h => ⟨s, h, eqB_self s⟩⟩
noncomputable def hasB (l : List KState) (s : KState) : Bool := l.any (fun x => eqB x s)
set_option maxRecDepth 100000 in
set_option maxHeartbeats 2000000 in
theorem has_any (p : Int) (sv : SV) (b : List KState) (tv : TV) (s : KState) (w : World) (hS : StatesAt w sv b) (hT : StateAt w tv s) : Calls Tryz.prog 23 #[.agg #[.int .i64 p, .slice sv.A b.length sv.c], tv.val s] w (RetB (.bool (hasB b s)) w) := by
 obtain ⟨⟨thA, thc⟩, ⟨tuA, tuc⟩, ⟨tmA, tmc⟩⟩ := tv
 obtain ⟨bA, bc⟩ := sv
 have hbx : b.length ≤ 9223372036854775807 := by obtain ⟨_, _, h, _⟩ := hS; have h1 := h.2.2.1; have h2 := h.2.2.2; unfold maxLen at h2; omega
 have HS := Lib.hid hS; clear hS
 have HT := Lib.hid hT; clear hT
 simp only [TV.val, TV.cells, KState.cells]
 generalize hE : hasB b s = E
 have HE := Lib.hid hE; clear hE
 go_enter Tryz.func23, Tryz.ntmps23
 go_upto_region 1 with (fail)
 obtain ⟨W0, HW0⟩ : ∃ W0, Hid (W0 = (w.alloc (.cells #[.int .i64 p, .slice bA b.length bc] 30)).alloc (.cells #[.int .i64 s.day, .slice thA s.holders.length thc, .slice tuA s.used.length tuc, .slice tmA s.marks.length tmc] 43)) := ⟨_, rfl⟩
 have hh0 : W0.heap[w.heap.size]? = some (.cells #[.int .i64 p, .slice bA b.length bc] 30 (0, 0)) := by rw [HW0.out]; exact (Below.heap_alloc (w.alloc (.cells #[.int .i64 p, .slice bA b.length bc] 30)) _ (w.heap.size) (by simp)).trans (heap_alloc_new w (.cells #[.int .i64 p, .slice bA b.length bc] 30))
 have k0_0 : ∀ z : Bl W0, z.val.cell? ⟨w.heap.size, 0, none⟩ = some (.int .i64 p) := fun z => z.cell ((cell_of_row W0 _ 0 _ _ _ hh0).trans rfl)
 have k0_1 : ∀ z : Bl W0, z.val.cell? ⟨w.heap.size, 1, none⟩ = some (.slice bA b.length bc) := fun z => z.cell ((cell_of_row W0 _ 1 _ _ _ hh0).trans rfl)
 clear hh0
 have hh1 : W0.heap[w.heap.size + 1]? = some (.cells #[.int .i64 s.day, .slice thA s.holders.length thc, .slice tuA s.used.length tuc, .slice tmA s.marks.length tmc] 43 (0, 0)) := by rw [HW0.out]; exact (by have h := heap_alloc_new (w.alloc (.cells #[.int .i64 p, .slice bA b.length bc] 30)) (.cells #[.int .i64 s.day, .slice thA s.holders.length thc, .slice tuA s.used.length tuc, .slice tmA s.marks.length tmc] 43); simp only [World.size_alloc] at h; exact h)
 have k1_0 : ∀ z : Bl W0, z.val.cell? ⟨w.heap.size + 1, 0, none⟩ = some (.int .i64 s.day) := fun z => z.cell ((cell_of_row W0 _ 0 _ _ _ hh1).trans rfl)
 have k1_1 : ∀ z : Bl W0, z.val.cell? ⟨w.heap.size + 1, 1, none⟩ = some (.slice thA s.holders.length thc) := fun z => z.cell ((cell_of_row W0 _ 1 _ _ _ hh1).trans rfl)
 have k1_2 : ∀ z : Bl W0, z.val.cell? ⟨w.heap.size + 1, 2, none⟩ = some (.slice tuA s.used.length tuc) := fun z => z.cell ((cell_of_row W0 _ 2 _ _ _ hh1).trans rfl)
 have k1_3 : ∀ z : Bl W0, z.val.cell? ⟨w.heap.size + 1, 3, none⟩ = some (.slice tmA s.marks.length tmc) := fun z => z.cell ((cell_of_row W0 _ 3 _ _ _ hh1).trans rfl)
 clear hh1
 have HB : Hid (Below w.heap.size w W0) := by show Below _ _ _; rw [HW0.out]; exact Below.alloc' (Below.alloc' (Below.refl _ _) _) _
 rw [← HW0.out]
 change Code.wp _ _ _ _ (Bl.val (⟨W0, Below.refl _ _⟩ : Bl W0))
 generalize (⟨W0, Below.refl _ _⟩ : Bl W0) = s0
 go_wp2
 go_loopg [5] b.length (fun gk v5 wr => ∃ (j : Nat) (z : Bl W0), gk = b.length - j ∧ j ≤ b.length ∧ v5 = .int .i64 j ∧ wr = z.val ∧ Hid (∀ (i : Nat) (a : KState), i < j → b[i]? = some a → a ≠ s))
 case atStart => exact ⟨0, _, rfl, Nat.zero_le _, rfl, rfl, fun i a h => by omega⟩
 case round =>
  obtain ⟨j, z, hgk, hj, rfl, rfl, hpre⟩ := hrel
  have HGK := Lib.hid hgk; clear hgk
  by_cases hlt : j < b.length
  · obtain ⟨a, ha⟩ : ∃ a, b[j]? = some a := ⟨b[j], List.getElem?_eq_getElem hlt⟩
    obtain ⟨b1, o1, hA1, hl1, hc1⟩ := HS.out.form (by omega)
    obtain ⟨uv, hu, hc⟩ := hc1 j a ha
    try simp only at hA1
    subst hA1
    obtain ⟨⟨uhA, uhc⟩, ⟨uuA, uuc⟩, ⟨umA, umc⟩⟩ := uv
    have e0 : ∀ z : Bl W0, z.val.cell? ⟨b1, o1 + j * 4, none⟩ = some (.int .i64 a.day) := fun z => hc z.val (Below.step HB.out z.prop) 0 (by omega)
    have e1 : ∀ z : Bl W0, z.val.cell? ⟨b1, o1 + j * 4 + 1, none⟩ = some (.slice uhA a.holders.length uhc) := fun z => hc z.val (Below.step HB.out z.prop) 1 (by omega)
    have e2 : ∀ z : Bl W0, z.val.cell? ⟨b1, o1 + j * 4 + 2, none⟩ = some (.slice uuA a.used.length uuc) := fun z => hc z.val (Below.step HB.out z.prop) 2 (by omega)
    have e3 : ∀ z : Bl W0, z.val.cell? ⟨b1, o1 + j * 4 + 3, none⟩ = some (.slice umA a.marks.length umc) := fun z => hc z.val (Below.step HB.out z.prop) 3 (by omega)
    have HSA := Lib.hid (fun z : Bl W0 => same_any ⟨⟨uhA, uhc⟩, ⟨uuA, uuc⟩, ⟨umA, umc⟩⟩ ⟨⟨thA, thc⟩, ⟨tuA, tuc⟩, ⟨tmA, tmc⟩⟩ a s z.val (hu.below (Below.step HB.out z.prop)) (HT.out.below (Below.step HB.out z.prop)))
    simp only [TV.val, TV.cells, KState.cells] at HSA
    clear hc hc1 hu
    have HA := Lib.hid ha; clear ha
    have j1 : (j : Int) < (b.length : Int) := by omega
    cases q1 : eqB a s with
    | false =>
     rw [q1] at HSA
     go_wp2_with fail
     refine wp_region_bl (by kernel_rfl) (by kernel_rfl) ?_
     repeat (go_big_quiet_step ((first | (go_at_call 30; exact Calls.bl_of (HSA.out _)))))
     refine wpQuiet_nil ?_
     rintro _ ⟨zq, rfl⟩
     go_wp2
     go_roundg (b.length - (j + 1))
     case measure => have := HGK.out; omega
     case rel =>
      refine ⟨j + 1, _, rfl, by omega, by go_num, rfl, fun i a' hi h1 => ?_⟩
      by_cases e : i = j
      · subst e
        rw [HA.out] at h1
        cases h1
        intro h
        rw [h, eqB_self] at q1
        cases q1
      · exact hpre.out i a' (by omega) h1
    | true =>
     rw [q1] at HSA
     obtain rfl : E = true := by
      rw [← HE.out]
      exact hasB_iff.2 ((eqB_iff.1 q1) ▸ List.mem_of_getElem? HA.out)
     go_wp2_with fail
     refine wp_region_bl (by kernel_rfl) (by kernel_rfl) ?_
     repeat (go_big_quiet_step ((first | (go_at_call 30; exact Calls.bl_of (HSA.out _)))))
     refine wpQuiet_nil ?_
     rintro _ ⟨zq, rfl⟩
     go_wp2
     go_ret
     exact ⟨rfl, Below.step HB.out (Bl.prop _)⟩
  · have hjn : j = b.length := by omega
    subst hjn
    obtain rfl : E = false := by
     rw [← HE.out]
     cases h : hasB b s with
     | false => rfl
     | true =>
      obtain ⟨i, hi, he⟩ := List.mem_iff_getElem.1 (hasB_iff.1 h)
      exact absurd he (hpre.out i _ hi (List.getElem?_eq_getElem hi))
    go_wp2
    go_ret
    exact ⟨rfl, Below.step HB.out (Bl.prop _)⟩
end Go.Proofs.YtaielhafpmjkaaaGreatDoor
