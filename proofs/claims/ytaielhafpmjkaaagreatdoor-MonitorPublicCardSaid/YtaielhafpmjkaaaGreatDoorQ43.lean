/-
  Ref36
-/
import Derived.Test.YtaielhafpmjkaaaGreatDoorQ41
import Derived.Test.YtaielhafpmjkaaaGreatDoorQ12
namespace Go.Proofs.YtaielhafpmjkaaaGreatDoor
open Go.RowKit Go.Shelf
set_option maxRecDepth 100000 in
set_option maxHeartbeats 2000000 in
theorem ints_any (x y : SV) (l m : List Int) (w : World) (hx : At w 1 x.A l.length x.c (ints l)) (hy : At w 1 y.A m.length y.c (ints m)) : Calls Tryz.prog 28 #[.slice x.A l.length x.c, .slice y.A m.length y.c] w (RetB (.bool (eqB l m)) w) := by
 obtain ⟨xA, xc⟩ := x
 obtain ⟨yA, yc⟩ := y
 have hb1 : l.length ≤ 9223372036854775807 := by have h1 := hx.2.2.1; have h2 := hx.2.2.2; unfold maxLen at h2; omega
 have hb2 : m.length ≤ 9223372036854775807 := by have h1 := hy.2.2.1; have h2 := hy.2.2.2; unfold maxLen at h2; omega
 have HX := Lib.hid hx; clear hx
 have HY := Lib.hid hy; clear hy
 by_cases hnm : l.length = m.length
 · have HNM := Lib.hid hnm; clear hnm
   obtain ⟨n, HL, HM⟩ : ∃ n, Hid (l.length = n) ∧ Hid (m.length = n) := ⟨l.length, rfl, HNM.out.symm⟩
   show Calls _ _ #[.slice xA l.length xc, .slice yA m.length yc] _ _
   rw [HL.out, HM.out]
   rw [HL.out] at hb1
   clear hb2
   generalize hE : eqB l m = E
   have HE := Lib.hid hE; clear hE
   go_enter Tryz.func28, Tryz.ntmps28
   go_wp2
   go_loopg [5] n (fun gk v5 wr => ∃ (j q : Nat), gk = n - j ∧ j ≤ n ∧ v5 = .int .i64 j ∧ wr = w.drewN q ∧ Hid (∀ (i : Nat) (a b : Int), i < j → l[i]? = some a → m[i]? = some b → a = b))
   case atStart => exact ⟨0, 0, rfl, Nat.zero_le _, rfl, rfl, fun i a b h => by omega⟩
   case round =>
    obtain ⟨j, q, hgk, hj, rfl, rfl, hpre⟩ := hrel
    have HGK := Lib.hid hgk; clear hgk
    by_cases hlt : j < n
    · obtain ⟨a, ha⟩ : ∃ a, l[j]? = some a := ⟨l[j]'(by rw [HL.out]; exact hlt), List.getElem?_eq_getElem _⟩
      obtain ⟨b, hb⟩ : ∃ b, m[j]? = some b := ⟨m[j]'(by rw [HM.out]; exact hlt), List.getElem?_eq_getElem _⟩
      obtain ⟨b1, o1, hA1, hl1, hc1⟩ := HX.out.1.form (by rw [HL.out]; omega) (by omega)
      obtain ⟨b2, o2, hA2, hl2, hc2⟩ := HY.out.1.form (by rw [HM.out]; omega) (by omega)
      try simp only at hA1 hA2
      subst hA1 hA2
      have HLT := Lib.hid hl1; clear hl1 hl2
      have e1 : w.cell? ⟨b1, o1 + j, none⟩ = some (.int .i64 a) := by rw [hc1 _ (by rw [HL.out]; omega)]; simp only [ints, List.getElem?_map, ha, Option.map_some]
      have e2 : w.cell? ⟨b2, o2 + j, none⟩ = some (.int .i64 b) := by rw [hc2 _ (by rw [HM.out]; omega)]; simp only [ints, List.getElem?_map, hb, Option.map_some]
      clear hc1 hc2
      have HAB : Hid (l[j]? = some a ∧ m[j]? = some b) := ⟨ha, hb⟩
      clear ha hb
      by_cases hab : a = b
      · subst hab
        go_wp2_with fail
        go_region
        go_wp2
        go_roundg (n - (j + 1))
        case measure => have := HGK.out; omega
        case rel =>
         refine ⟨j + 1, q + 1, rfl, by omega, by go_num, rfl, fun i a' b' hi h1 h2 => ?_⟩
         by_cases e : i = j
         · subst e
           rw [HAB.out.1] at h1
           rw [HAB.out.2] at h2
           cases h1; cases h2; rfl
         · exact hpre.out i a' b' (by omega) h1 h2
      · obtain rfl : E = false := by
         rw [← HE.out]
         refine eqB_ne (fun h => hab ?_)
         have h1 := HAB.out.1
         rw [h, HAB.out.2] at h1
         exact (Option.some.inj h1).symm
        go_wp2_with fail
        go_region
        go_wp2
        go_ret
        exact ⟨rfl, below_drewN _ _⟩
    · have hjn : j = n := by omega
      subst hjn
      obtain rfl : E = true := by
       rw [← HE.out]
       exact eqB_iff.2 (eq_of_upto (HL.out.trans HM.out.symm) (fun i a b hi => hpre.out i a b (by have := HL.out; omega)))
      go_wp2
      go_ret
      exact ⟨rfl, below_drewN _ _⟩
 · have hne : ¬ ((l.length : Int) = (m.length : Int)) := by omega
   have hEf : eqB l m = false := eqB_ne (fun h => hnm (by rw [h]))
   rw [hEf]
   clear hEf hnm
   show Calls _ _ #[.slice xA l.length xc, .slice yA m.length yc] _ _
   go_enter Tryz.func28, Tryz.ntmps28
   go_wp2
   go_ret
   exact ⟨rfl, Below.refl _ _⟩
theorem ticks_take {l : List Int} {j : Nat} {x : Int} (h : l[j]? = some x) : ticks (l.take (j + 1)) = ticks (l.take j) + cond (x == -1) 1 0 := by rw [take_snoc' h, ticks_snoc]
theorem ticks_le (l : List Int) : 0 ≤ ticks l ∧ ticks l ≤ l.length := by
 unfold ticks
 have := List.length_filter_le (fun x => x == -1) l
 omega
set_option maxRecDepth 100000 in
set_option maxHeartbeats 1000000 in
theorem count_any (x : SV) (l : List Int) (w : World) (hx : At w 1 x.A l.length x.c (ints l)) : Calls Tryz.prog 29 #[.slice x.A l.length x.c, .int .i64 (-1)] w (RetB (.int .i64 (ticks l)) w) := by
 obtain ⟨xA, xc⟩ := x
 have hb1 : l.length ≤ 9223372036854775807 := by have h1 := hx.2.2.1; have h2 := hx.2.2.2; unfold maxLen at h2; omega
 have HX := Lib.hid hx; clear hx
 generalize hE : ticks l = E
 have HE := Lib.hid hE; clear hE
 go_enter Tryz.func29, Tryz.ntmps29
 go_wp2
 go_loopg [6, 5] l.length (fun gk v6 v5 wr => ∃ (j : Nat) (t : Int), gk = l.length - j ∧ j ≤ l.length ∧ v6 = .int .i64 j ∧ v5 = .int .i64 t ∧ wr = w ∧ Hid (t = ticks (l.take j)) ∧ 0 ≤ t ∧ t ≤ j)
 case atStart => exact ⟨0, 0, rfl, Nat.zero_le _, rfl, rfl, rfl, rfl, by omega, by omega⟩
 case round =>
  obtain ⟨j, t, hgk, hj, rfl, rfl, rfl, ht, ht0, htj⟩ := hrel
  have HGK := Lib.hid hgk; clear hgk
  by_cases hlt : j < l.length
  · obtain ⟨a, ha⟩ : ∃ a, l[j]? = some a := ⟨l[j], List.getElem?_eq_getElem hlt⟩
    obtain ⟨b1, o1, hA1, _, hc1⟩ := HX.out.1.form (by omega) (by omega)
    try simp only at hA1
    subst hA1
    have e1 : wr.cell? ⟨b1, o1 + j, none⟩ = some (.int .i64 a) := by rw [hc1 _ (by omega)]; simp only [ints, List.getElem?_map, ha, Option.map_some]
    have HTT := Lib.hid (ticks_take ha)
    clear hc1 ha
    have j1 : (j : Int) < (l.length : Int) := by omega
    have t1 : t + 1 ≤ 9223372036854775807 := by omega
    cases q : (a == -1) with
    | true =>
     go_wp2
     go_roundg (l.length - (j + 1))
     case measure => have := HGK.out; omega
     case rel => exact ⟨j + 1, t + 1, rfl, by omega, by go_num, by go_num, rfl, (by show _ = _; rw [HTT.out, q, ← ht.out]; rfl), by omega, by omega⟩
    | false =>
     go_wp2
     go_roundg (l.length - (j + 1))
     case measure => have := HGK.out; omega
     case rel => exact ⟨j + 1, t, rfl, by omega, by go_num, rfl, rfl, (by show _ = _; rw [HTT.out, q, ← ht.out, cond_false, Int.add_zero]), by omega, by omega⟩
  · obtain rfl : j = l.length := by omega
    obtain rfl : E = t := by rw [← HE.out, ht.out, List.take_length]
    go_wp2
    go_ret
    exact ⟨rfl, Below.refl _ _⟩
end Go.Proofs.YtaielhafpmjkaaaGreatDoor
