/-
  CuA; CuB
-/
import Derived.Test.YtahhdjeclbagnaaGreatDoorQ32
import Derived.Test.YtahhdjeclbagnaaGreatDoorQ30
namespace Go.Proofs.YtahhdjeclbagnaaGreatDoor
open Go.RowKit Go.Shelf
attribute [local go_sem] stillB stillUpon makesUpon
def NumsAt (w : World) (v : SV) (L : List (List Int)) : Prop :=
 ∃ ts : List SV, ts.length = L.length ∧ At w 1 v.A L.length v.c ((L.zip ts).map (fun p => Value.slice p.2.A p.1.length p.2.c)) ∧ ∀ (i : Nat) (l : List Int) (t : SV), L[i]? = some l → ts[i]? = some t → At w 1 t.A l.length t.c (ints l)
theorem NumsAt.below {w w' : World} {v : SV} {L : List (List Int)} (h : NumsAt w v L) (hb : Below w.heap.size w w') : NumsAt w' v L := by
 obtain ⟨ts, h1, h2, h3⟩ := h
 exact ⟨ts, h1, h2.below (by omega) hb, fun i l t hl ht => (h3 i l t hl ht).below (by omega) hb⟩
theorem NumsAt.len {w : World} {v : SV} {L : List (List Int)} (h : NumsAt w v L) : L.length ≤ v.c ∧ v.c ≤ 9223372036854775807 := by
 obtain ⟨ts, h1, h2, h3⟩ := h
 have h4 := h2.2.2.1
 have h5 := h2.2.2.2
 unfold maxLen at h5
 omega
theorem NumsAt.form {w : World} {v : SV} {L : List (List Int)} (h : NumsAt w v L) (hl : 0 < L.length) :
 ∃ b off, v.A = some ⟨b, off, none⟩ ∧ b < w.heap.size ∧ ∀ (i : Nat) (l : List Int), L[i]? = some l → ∃ t : SV, At w 1 t.A l.length t.c (ints l) ∧ ∀ W, Below w.heap.size w W → W.cell? ⟨b, off + i, none⟩ = some (.slice t.A l.length t.c) := by
 obtain ⟨ts, h1, h2, h3⟩ := h
 obtain ⟨b, off, hA, hb, hc⟩ := h2.1.form hl (by omega)
 refine ⟨b, off, hA, hb, fun i l hi => ?_⟩
 have hil : i < L.length := (List.getElem?_eq_some_iff.1 hi).1
 have ht : ts[i]? = some (ts[i]'(by omega)) := List.getElem?_eq_getElem _
 refine ⟨ts[i]'(by omega), h3 i l _ hi ht, fun W hW => ?_⟩
 rw [hW.cell (p := ⟨b, off + i, none⟩) hb, hc _ (by omega), List.getElem?_map]
 have hz : (L.zip ts)[i]? = some (l, ts[i]'(by omega)) := by rw [List.getElem?_zip_eq_some]; exact ⟨hi, ht⟩
 rw [hz]
 rfl
theorem atLen {w : World} {size : Nat} {A : Option Addr} {n c : Nat} {xs : List Value} (h : At w size A n c xs) : n ≤ 9223372036854775807 := by
 have h1 := h.2.2.1
 have h2 := h.2.2.2
 unfold maxLen at h2
 omega
theorem takeEq {α : Type} {l m : List α} {k : Nat} {x : α} (h : l.take k = m.take k) (h1 : l[k]? = some x) (h2 : m[k]? = some x) : l.take (k + 1) = m.take (k + 1) := by
 rw [List.take_add_one, List.take_add_one, h, h1, h2]
set_option maxRecDepth 100000 in
set_option maxHeartbeats 4000000 in
theorem same_any (l m : List Int) (a b : SV) (w : World) (hl : At w 1 a.A l.length a.c (ints l)) (hm : At w 1 b.A m.length b.c (ints m)) :
 Calls Tryz.prog 35 #[.slice a.A l.length a.c, .slice b.A m.length b.c] w (RetB (.bool (decide (l = m))) w) := by
 obtain ⟨aA, ac⟩ := a
 obtain ⟨bA, bc⟩ := b
 have hlx := atLen hl
 have hmx := atLen hm
 have HL := Lib.hid hl; clear hl
 have HM := Lib.hid hm; clear hm
 obtain ⟨E, HE⟩ : ∃ E, Hid (decide (l = m) = E) := ⟨_, rfl⟩
 rw [HE.out]
 by_cases hlen : l.length = m.length
 · have q1 : ((l.length : Int) != (m.length : Int)) = false := by simp [hlen]
   have HLEN := Lib.hid hlen; clear hlen
   go_enter Tryz.func35, Tryz.ntmps35
   go_wp2
   go_loopw [5] (fun v wr => ∃ k : Nat, k ≤ l.length ∧ v = .int .i64 k ∧ Hid (l.take k = m.take k) ∧ Hid (Below w.heap.size w wr)) (fun v _ => l.length - (intOf v).toNat)
   case atStart => exact ⟨0, Nat.zero_le _, rfl, rfl, Below.refl _ _⟩
   case round =>
    obtain ⟨k, hk, rfl, HT, HBW⟩ := hrel
    by_cases hlt : k < l.length
    · have hlt2 : k < m.length := by rw [← HLEN.out]; exact hlt
      obtain ⟨x, hx⟩ : ∃ x, l[k]? = some x := ⟨_, List.getElem?_eq_getElem hlt⟩
      obtain ⟨y, hy⟩ : ∃ y, m[k]? = some y := ⟨_, List.getElem?_eq_getElem hlt2⟩
      obtain ⟨g1, o1, e1, hg1, hc1⟩ := HL.out.1.form (by omega) (by omega)
      obtain ⟨g2, o2, e2, hg2, hc2⟩ := HM.out.1.form (by omega) (by omega)
      subst e1 e2
      have x0 : ∀ z : Bl wr, z.val.cell? ⟨g1, o1 + k, none⟩ = some (.int .i64 x) := fun z => ((Below.step HBW.out z.prop).cell (p := ⟨g1, o1 + k, none⟩) hg1).trans ((hc1 k (by omega)).trans (ints_get hx))
      have y0 : ∀ z : Bl wr, z.val.cell? ⟨g2, o2 + k, none⟩ = some (.int .i64 y) := fun z => ((Below.step HBW.out z.prop).cell (p := ⟨g2, o2 + k, none⟩) hg2).trans ((hc2 k (by omega)).trans (ints_get hy))
      have k1 : (k : Int) < (l.length : Int) := by omega
      have k2 : (k : Int) < (m.length : Int) := by omega
      have HX := Lib.hid hx
      have HY := Lib.hid hy
      clear hx hy hc1 hc2 q1
      go_upto_region 6 with (fail)
      by_cases he : x = y
      · have HXY := Lib.hid he
        subst he
        change Code.wp _ _ _ _ (Bl.val (⟨wr, Below.refl _ _⟩ : Bl wr))
        generalize (⟨wr, Below.refl _ _⟩ : Bl wr) = za
        refine wp_region_bl (by kernel_rfl) (by kernel_rfl) ?_
        repeat (go_big_quiet_step (fail))
        refine wpQuiet_nil ?_
        rintro _ ⟨zb, rfl⟩
        have HBZ := Lib.hid (Below.step HBW.out zb.prop)
        have HTN := Lib.hid (takeEq HT.out HX.out HY.out)
        clear x0 y0 HBW
        generalize zb.val = Wd at HBZ ⊢
        go_wp2
        go_roundw
        case rel => exact ⟨k + 1, by omega, by go_num, HTN, HBZ⟩
        case measure => simp [intOf]; omega
      · obtain rfl : E = false := by
         rw [← HE.out]
         refine decide_eq_false (fun h => he ?_)
         have h1 := HX.out
         rw [h, HY.out] at h1
         exact (Option.some.inj h1).symm
        have q2 : (x != y) = true := by simp [he]
        change Code.wp _ _ _ _ (Bl.val (⟨wr, Below.refl _ _⟩ : Bl wr))
        generalize (⟨wr, Below.refl _ _⟩ : Bl wr) = za
        refine wp_region_bl (by kernel_rfl) (by kernel_rfl) ?_
        repeat (go_big_quiet_step (fail))
        refine wpQuiet_nil ?_
        rintro _ ⟨zb, rfl⟩
        have HBZ := Lib.hid (Below.step HBW.out zb.prop)
        go_wp2
        go_ret
        exact ⟨rfl, HBZ.out⟩
    · obtain rfl : k = l.length := by omega
      obtain rfl : E = true := by
       rw [← HE.out]
       refine decide_eq_true ?_
       have h := HT.out
       rw [List.take_length, HLEN.out, List.take_length] at h
       exact h
      go_wp2
      go_ret
      exact ⟨rfl, HBW.out⟩
 · have q1 : ((l.length : Int) != (m.length : Int)) = true := by simp; omega
   obtain rfl : E = false := by
    rw [← HE.out]
    exact decide_eq_false (fun h => hlen (by rw [h]))
   go_enter Tryz.func35, Tryz.ntmps35
   go_wp2
   go_ret
   exact ⟨rfl, Below.refl _ _⟩
set_option maxRecDepth 100000 in
set_option maxHeartbeats 4000000 in
theorem in_any (L : List (List Int)) (x : List Int) (a b : SV) (w : World) (hL : NumsAt w a L) (hx : At w 1 b.A x.length b.c (ints x)) :
 Calls Tryz.prog 17 #[.slice a.A L.length a.c, .slice b.A x.length b.c] w (RetB (.bool (decide (x ∈ L))) w) := by
 obtain ⟨aA, ac⟩ := a
 have hlx := hL.len
 simp only at hlx
 have HL := Lib.hid hL; clear hL
 have HX := Lib.hid hx; clear hx
 obtain ⟨E, HE⟩ : ∃ E, Hid (decide (x ∈ L) = E) := ⟨_, rfl⟩
 rw [HE.out]
 go_enter Tryz.func17, Tryz.ntmps17
 go_wp2
 go_loopw [5] (fun v wr => ∃ k : Nat, k ≤ L.length ∧ v = .int .i64 k ∧ Hid (x ∉ L.take k) ∧ Hid (Below w.heap.size w wr)) (fun v _ => L.length - (intOf v).toNat)
 case atStart => exact ⟨0, Nat.zero_le _, rfl, (fun h => by simp at h), Below.refl _ _⟩
 case round =>
  obtain ⟨k, hk, rfl, HT, HBW⟩ := hrel
  by_cases hlt : k < L.length
  · obtain ⟨y, hy⟩ : ∃ y, L[k]? = some y := ⟨_, List.getElem?_eq_getElem hlt⟩
    obtain ⟨g1, o1, e1, hg1, hc1⟩ := HL.out.form (by omega)
    simp only at e1
    subst e1
    obtain ⟨t, ht, hct⟩ := hc1 k y hy
    have x0 := hct wr HBW.out
    have k1 : (k : Int) < (L.length : Int) := by omega
    have HS := Lib.hid (same_any y x t b wr (ht.below (by omega) HBW.out) (HX.out.below (by omega) HBW.out))
    have HY := Lib.hid hy
    clear hy hc1 ht hct
    by_cases he : y = x
    · obtain rfl : E = true := by
       rw [← HE.out]
       exact decide_eq_true (by rw [← he]; exact List.mem_of_getElem? HY.out)
      rw [decide_eq_true he] at HS
      clear he
      go_wp2_with (go_at_call 35; refine HS.out.mono ?_; rintro e z ⟨rfl, hz⟩; refine Hid.out ?_)
      refine Lib.hid ?_
      go_wp2
      go_ret
      exact ⟨rfl, Below.step HBW.out hz⟩
    · have HTN : Hid (x ∉ L.take (k + 1)) := by
       show _
       rw [List.take_add_one, HY.out]
       intro h
       rcases List.mem_append.1 h with h | h
       · exact HT.out h
       · simp at h; exact he h.symm
      rw [decide_eq_false he] at HS
      go_wp2_with (go_at_call 35; refine HS.out.mono ?_; rintro e z ⟨rfl, hz⟩; refine Hid.out ?_)
      refine Lib.hid ?_
      have HBZ := Lib.hid (Below.step HBW.out hz)
      clear hz
      go_wp2
      go_roundw
      case rel => exact ⟨k + 1, by omega, by go_num, HTN, HBZ⟩
      case measure => simp [intOf]; omega
  · obtain rfl : k = L.length := by omega
    obtain rfl : E = false := by
     rw [← HE.out]
     have h := HT.out
     rw [List.take_length] at h
     exact decide_eq_false h
    go_wp2
    go_ret
    exact ⟨rfl, HBW.out⟩
def findX (F : List KFact) (r : Int) : Int := match F.findIdx? (fun x => x.ref == r) with | some i => i | none => -1
set_option maxRecDepth 100000 in
set_option maxHeartbeats 4000000 in
theorem find_any (F : List KFact) (r : Int) (a : SV) (w : World) (hF : At w 6 a.A F.length a.c (factCells F)) :
 Calls Tryz.prog 19 #[.slice a.A F.length a.c, .int .i64 r] w (fun e w' => ∃ i : Int, e = .returned (.int .i64 i) ∧ Below w.heap.size w w' ∧ ((i = -1 ∧ ∀ x ∈ F, x.ref ≠ r) ∨ ∃ (k : Nat) (x : KFact), i = k ∧ F[k]? = some x ∧ x.ref = r ∧ ∀ y ∈ F.take k, y.ref ≠ r)) := by
 obtain ⟨aA, ac⟩ := a
 have hlx := atLen hF
 have HF := Lib.hid hF; clear hF
 go_enter Tryz.func19, Tryz.ntmps19
 go_wp2
 go_loopw [5] (fun v wr => ∃ k : Nat, k ≤ F.length ∧ v = .int .i64 k ∧ Hid (∀ y ∈ F.take k, y.ref ≠ r) ∧ Hid (Below w.heap.size w wr)) (fun v _ => F.length - (intOf v).toNat)
 case atStart => exact ⟨0, Nat.zero_le _, rfl, (fun y hy => by simp at hy), Below.refl _ _⟩
 case round =>
  obtain ⟨k, hk, rfl, HT, HBW⟩ := hrel
  by_cases hlt : k < F.length
  · obtain ⟨x, hx⟩ : ∃ x, F[k]? = some x := ⟨_, List.getElem?_eq_getElem hlt⟩
    obtain ⟨g1, o1, e1, hg1, hc1⟩ := HF.out.fact (by omega)
    subst e1
    have x0 : wr.cell? ⟨g1, o1 + k * 6, none⟩ = some (.int .i64 x.ref) := hc1 k x hx wr HBW.out 0 (by omega)
    have k1 : (k : Int) < (F.length : Int) := by omega
    have HX := Lib.hid hx
    clear hx hc1
    by_cases he : x.ref = r
    · have q1 : (x.ref == r) = true := by simp [he]
      have HE := Lib.hid he; clear he
      go_wp2
      go_ret
      exact ⟨_, rfl, HBW.out, .inr ⟨k, x, rfl, HX.out, HE.out, HT.out⟩⟩
    · have q1 : (x.ref == r) = false := by simp [he]
      have HTN : Hid (∀ y ∈ F.take (k + 1), y.ref ≠ r) := by
       intro y hy
       rw [List.take_add_one, HX.out] at hy
       rcases List.mem_append.1 hy with h | h
       · exact HT.out y h
       · simp at h; rw [h]; exact he
      go_wp2
      go_roundw
      case rel => exact ⟨k + 1, by omega, by go_num, HTN, HBW⟩
      case measure => simp [intOf]; omega
  · obtain rfl : k = F.length := by omega
    rw [List.take_length] at HT
    go_wp2
    go_ret
    exact ⟨_, rfl, HBW.out, .inl ⟨rfl, HT.out⟩⟩
end Go.Proofs.YtahhdjeclbagnaaGreatDoor
namespace Go.Proofs.YtahhdjeclbagnaaGreatDoor
open Go.RowKit Go.Shelf
attribute [local go_sem] stillB stillUpon makesUpon
set_option maxRecDepth 100000 in
set_option maxHeartbeats 4000000 in
theorem sames_any (L M : List (List Int)) (a b : SV) (w : World) (hL : NumsAt w a L) (hM : NumsAt w b M) :
 Calls Tryz.prog 22 #[.slice a.A L.length a.c, .slice b.A M.length b.c] w (RetB (.bool (decide (L = M))) w) := by
 obtain ⟨aA, ac⟩ := a
 obtain ⟨bA, bc⟩ := b
 have hlx : L.length ≤ 9223372036854775807 := by have := hL.len; omega
 have hmx : M.length ≤ 9223372036854775807 := by have := hM.len; omega
 have HL := Lib.hid hL; clear hL
 have HM := Lib.hid hM; clear hM
 obtain ⟨E, HE⟩ : ∃ E, Hid (decide (L = M) = E) := ⟨_, rfl⟩
 rw [HE.out]
 by_cases hlen : L.length = M.length
 · have q1 : ((L.length : Int) != (M.length : Int)) = false := by simp [hlen]
   have HLEN := Lib.hid hlen; clear hlen
   go_enter Tryz.func22, Tryz.ntmps22
   go_wp2
   go_loopw [5] (fun v wr => ∃ k : Nat, k ≤ L.length ∧ v = .int .i64 k ∧ Hid (L.take k = M.take k) ∧ Hid (Below w.heap.size w wr)) (fun v _ => L.length - (intOf v).toNat)
   case atStart => exact ⟨0, Nat.zero_le _, rfl, rfl, Below.refl _ _⟩
   case round =>
    obtain ⟨k, hk, rfl, HT, HBW⟩ := hrel
    by_cases hlt : k < L.length
    · have hlt2 : k < M.length := by rw [← HLEN.out]; exact hlt
      obtain ⟨x, hx⟩ : ∃ x, L[k]? = some x := ⟨_, List.getElem?_eq_getElem hlt⟩
      obtain ⟨y, hy⟩ : ∃ y, M[k]? = some y := ⟨_, List.getElem?_eq_getElem hlt2⟩
      obtain ⟨g1, o1, e1, hg1, hc1⟩ := HL.out.form (by omega)
      obtain ⟨g2, o2, e2, hg2, hc2⟩ := HM.out.form (by omega)
      simp only at e1 e2
      subst e1 e2
      obtain ⟨t, ht, hct⟩ := hc1 k x hx
      obtain ⟨s, hs, hcs⟩ := hc2 k y hy
      have x0 : ∀ z : Bl wr, z.val.cell? ⟨g1, o1 + k, none⟩ = some (.slice t.A x.length t.c) := fun z => hct z.val (Below.step HBW.out z.prop)
      have y0 : ∀ z : Bl wr, z.val.cell? ⟨g2, o2 + k, none⟩ = some (.slice s.A y.length s.c) := fun z => hcs z.val (Below.step HBW.out z.prop)
      have HS := Lib.hid (fun z : Bl wr => same_any x y t s z.val (ht.below (by omega) (Below.step HBW.out z.prop)) (hs.below (by omega) (Below.step HBW.out z.prop)))
      have k1 : (k : Int) < (L.length : Int) := by omega
      have k2 : (k : Int) < (M.length : Int) := by omega
      have HX := Lib.hid hx
      have HY := Lib.hid hy
      clear hx hy hc1 hc2 q1 hct hcs ht hs
      go_upto_region 6 with (fail)
      by_cases he : x = y
      · have HTN : Hid (L.take (k + 1) = M.take (k + 1)) := takeEq HT.out HX.out (by rw [he]; exact HY.out)
        rw [decide_eq_true he] at HS
        clear he
        change Code.wp _ _ _ _ (Bl.val (⟨wr, Below.refl _ _⟩ : Bl wr))
        generalize (⟨wr, Below.refl _ _⟩ : Bl wr) = za
        refine wp_region_bl (by kernel_rfl) (by kernel_rfl) ?_
        repeat (go_big_quiet_step ((go_at_call 35; exact Calls.bl_of (HS.out _))))
        refine wpQuiet_nil ?_
        rintro _ ⟨zb, rfl⟩
        have HBZ := Lib.hid (Below.step HBW.out zb.prop)
        clear x0 y0 HBW HS
        generalize zb.val = Wd at HBZ ⊢
        go_wp2
        go_roundw
        case rel => exact ⟨k + 1, by omega, by go_num, HTN, HBZ⟩
        case measure => simp [intOf]; omega
      · obtain rfl : E = false := by
         rw [← HE.out]
         refine decide_eq_false (fun h => he ?_)
         have h1 := HX.out
         rw [h, HY.out] at h1
         exact (Option.some.inj h1).symm
        rw [decide_eq_false he] at HS
        clear he
        change Code.wp _ _ _ _ (Bl.val (⟨wr, Below.refl _ _⟩ : Bl wr))
        generalize (⟨wr, Below.refl _ _⟩ : Bl wr) = za
        refine wp_region_bl (by kernel_rfl) (by kernel_rfl) ?_
        repeat (go_big_quiet_step ((go_at_call 35; exact Calls.bl_of (HS.out _))))
        refine wpQuiet_nil ?_
        rintro _ ⟨zb, rfl⟩
        have HBZ := Lib.hid (Below.step HBW.out zb.prop)
        go_wp2
        go_ret
        exact ⟨rfl, HBZ.out⟩
    · obtain rfl : k = L.length := by omega
      obtain rfl : E = true := by
       rw [← HE.out]
       refine decide_eq_true ?_
       have h := HT.out
       rw [List.take_length, HLEN.out, List.take_length] at h
       exact h
      go_wp2
      go_ret
      exact ⟨rfl, HBW.out⟩
 · have q1 : ((L.length : Int) != (M.length : Int)) = true := by simp; omega
   obtain rfl : E = false := by
    rw [← HE.out]
    exact decide_eq_false (fun h => hlen (by rw [h]))
   go_enter Tryz.func22, Tryz.ntmps22
   go_wp2
   go_ret
   exact ⟨rfl, Below.refl _ _⟩
instance : DecidableEq KFact := fun a b => by
 obtain ⟨a1, a2, a3, a4, a5, a6⟩ := a
 obtain ⟨b1, b2, b3, b4, b5, b6⟩ := b
 exact decidable_of_iff (a1 = b1 ∧ a2 = b2 ∧ a3 = b3 ∧ a4 = b4 ∧ a5 = b5 ∧ a6 = b6) (by simp)
instance : DecidableEq KFile := fun a b => by
 obtain ⟨a1, a2, a3⟩ := a
 obtain ⟨b1, b2, b3⟩ := b
 exact decidable_of_iff (a1 = b1 ∧ a2 = b2 ∧ a3 = b3) (by simp)
theorem eqFact (x y : KFact) (w : World) : (Op.equalIn 10000 50 (.agg #[.int .i64 x.ref, .int .i64 x.act, .int .i64 x.low, .int .i64 x.high, .int .i64 x.filed, .bool x.secret]) (.agg #[.int .i64 y.ref, .int .i64 y.act, .int .i64 y.low, .int .i64 y.high, .int .i64 y.filed, .bool y.secret])).run Tryz.prog w = .ok (decide (x = y)) w := by
 have u3 := Tryz.underlying3
 have u4 := Tryz.underlying4
 have hS : Tryz.prog.underlying 50 = some (.struct (Tryz.prog.fieldsOf 50)) := by kernel_rfl
 obtain ⟨x1, x2, x3, x4, x5, x6⟩ := x
 obtain ⟨y1, y2, y3, y4, y5, y6⟩ := y
 rw [show (10000 : Nat) = 9999 + 1 from rfl, run_equalIn_agg w 9999 50 _ _ hS (by kernel_rfl)]
 simp only [Program.fieldsOf, Tryz.underlying50]
 go_simp
 by_cases h1 : x1 = y1 <;> by_cases h2 : x2 = y2 <;> by_cases h3 : x3 = y3 <;> by_cases h4 : x4 = y4 <;> by_cases h5 : x5 = y5 <;> by_cases h6 : x6 = y6 <;> simp [h1, h2, h3, h4, h5, h6]
theorem eqBef (x y : KBef) (w : World) : (Op.equalIn 10000 61 (.agg #[.int .i64 x.ref, .int .i64 x.next]) (.agg #[.int .i64 y.ref, .int .i64 y.next])).run Tryz.prog w = .ok (decide (x = y)) w := by
 have u3 := Tryz.underlying3
 have hS : Tryz.prog.underlying 61 = some (.struct (Tryz.prog.fieldsOf 61)) := by kernel_rfl
 obtain ⟨x1, x2⟩ := x
 obtain ⟨y1, y2⟩ := y
 rw [show (10000 : Nat) = 9999 + 1 from rfl, run_equalIn_agg w 9999 61 _ _ hS (by kernel_rfl)]
 simp only [Program.fieldsOf, Tryz.underlying61]
 go_simp
 by_cases h1 : x1 = y1 <;> by_cases h2 : x2 = y2 <;> simp [h1, h2]
set_option maxRecDepth 100000 in
set_option maxHeartbeats 4000000 in
theorem fileSame_any (f g : KFile) (a b : FV) (w : World) (hf : FileAt w a f) (hg : FileAt w b g) :
 Calls Tryz.prog 14 #[a.val f, b.val g] w (RetB (.bool (decide (f = g))) w) := by
 obtain ⟨⟨aA, ac⟩, ⟨pA, pc⟩⟩ := a
 obtain ⟨⟨bA, bc⟩, ⟨qA, qc⟩⟩ := b
 obtain ⟨hx, F, O⟩ := f
 obtain ⟨hy, G, P⟩ := g
 have l1 := atLen hf.facts
 have l2 := atLen hf.orders
 have l3 := atLen hg.facts
 have l4 := atLen hg.orders
 simp only at l1 l2 l3 l4
 have HF := Lib.hid hf; clear hf
 have HG := Lib.hid hg; clear hg
 obtain ⟨E, HE⟩ : ∃ E, Hid (decide ((⟨hx, F, O⟩ : KFile) = ⟨hy, G, P⟩) = E) := ⟨_, rfl⟩
 rw [HE.out]
 simp only [FV.val, FV.cells]
 go_enter Tryz.func14, Tryz.ntmps14
 go_upto_region 1 with (fail)
 generalize hW0 : World.alloc _ _ = W0
 obtain ⟨HB, hh0, hh1⟩ := bx2 hW0; clear hW0
 have O0 : Own W0 34 w.heap.size [.int .i64 hx, .slice aA F.length ac, .slice pA O.length pc] := ⟨[], by rw [List.append_nil]; exact hh0⟩
 have O1 : Own W0 34 (w.heap.size + 1) [.int .i64 hy, .slice bA G.length bc, .slice qA P.length qc] := ⟨[], by rw [List.append_nil]; exact hh1⟩
 have k0_0 : ∀ z : Bl W0, z.val.cell? ⟨w.heap.size, 0, none⟩ = some (.int .i64 hx) := fun z => (O0.below z.prop).cell rfl
 have k0_1 : ∀ z : Bl W0, z.val.cell? ⟨w.heap.size, 1, none⟩ = some (.slice aA F.length ac) := fun z => (O0.below z.prop).cell rfl
 have k0_2 : ∀ z : Bl W0, z.val.cell? ⟨w.heap.size, 2, none⟩ = some (.slice pA O.length pc) := fun z => (O0.below z.prop).cell rfl
 have k1_0 : ∀ z : Bl W0, z.val.cell? ⟨w.heap.size + 1, 0, none⟩ = some (.int .i64 hy) := fun z => (O1.below z.prop).cell rfl
 have k1_1 : ∀ z : Bl W0, z.val.cell? ⟨w.heap.size + 1, 1, none⟩ = some (.slice bA G.length bc) := fun z => (O1.below z.prop).cell rfl
 have k1_2 : ∀ z : Bl W0, z.val.cell? ⟨w.heap.size + 1, 2, none⟩ = some (.slice qA P.length qc) := fun z => (O1.below z.prop).cell rfl
 have e0 := k0_0 ⟨W0, Below.refl _ _⟩
 have e1 := k0_1 ⟨W0, Below.refl _ _⟩
 have e2 := k0_2 ⟨W0, Below.refl _ _⟩
 have f0 := k1_0 ⟨W0, Below.refl _ _⟩
 have f1 := k1_1 ⟨W0, Below.refl _ _⟩
 have f2 := k1_2 ⟨W0, Below.refl _ _⟩
 simp only at e0 e1 e2 f0 f1 f2
 clear hh0 hh1 O0 O1
 by_cases h0 : hx = hy ∧ F.length = G.length ∧ O.length = P.length
 · have p0 : (hx != hy) = false := by simp [h0.1]
   have p1 : ((F.length : Int) != (G.length : Int)) = false := by simp [h0.2.1]
   have p2 : ((O.length : Int) != (P.length : Int)) = false := by simp [h0.2.2]
   have HHO : Hid (hx = hy) := h0.1
   have HLEN1 : Hid (F.length = G.length) := h0.2.1
   have HLEN2 : Hid (O.length = P.length) := h0.2.2
   clear h0
   go_wp2
   clear e0 e1 e2 f0 f1 f2 p0 p1 p2
   go_loopw [5] (fun v wr => ∃ k : Nat, k ≤ F.length ∧ v = .int .i64 k ∧ Hid (F.take k = G.take k) ∧ Hid (Below W0.heap.size W0 wr)) (fun v _ => F.length - (intOf v).toNat)
   case atStart => exact ⟨0, Nat.zero_le _, rfl, rfl, Below.refl _ _⟩
   case round =>
    obtain ⟨k, hk, rfl, HT1, HBW1⟩ := hrel
    have c1 := k0_1 ⟨wr, HBW1.out⟩
    simp only at c1
    by_cases hlt : k < F.length
    · have hlt2 : k < G.length := by have := HLEN1.out; omega
      obtain ⟨x, hx⟩ : ∃ x, F[k]? = some x := ⟨_, List.getElem?_eq_getElem hlt⟩
      obtain ⟨y, hy⟩ : ∃ y, G[k]? = some y := ⟨_, List.getElem?_eq_getElem hlt2⟩
      obtain ⟨g1, o1, e1, hg1, hc1⟩ := HF.out.facts.fact (show 0 < F.length by omega)
      obtain ⟨g2, o2, e2, hg2, hc2⟩ := HG.out.facts.fact (show 0 < G.length by omega)
      simp only at e1 e2
      subst e1 e2
      have x0 : ∀ z : Bl wr, ∀ j, j < 6 → z.val.cell? ⟨g1, o1 + k * 6 + j, none⟩ = x.cells[j]? := fun z j hj => hc1 k x hx z.val (Below.step HB.out (Below.step HBW1.out z.prop)) j hj
      have y0 : ∀ z : Bl wr, ∀ j, j < 6 → z.val.cell? ⟨g2, o2 + k * 6 + j, none⟩ = y.cells[j]? := fun z j hj => hc2 k y hy z.val (Below.step HB.out (Below.step HBW1.out z.prop)) j hj
      have x0_0 : ∀ z : Bl wr, z.val.cell? ⟨g1, o1 + k * 6, none⟩ = some (.int .i64 x.ref) := fun z => x0 z 0 (by omega)
      have x0_1 : ∀ z : Bl wr, z.val.cell? ⟨g1, o1 + k * 6 + 1, none⟩ = some (.int .i64 x.act) := fun z => x0 z 1 (by omega)
      have x0_2 : ∀ z : Bl wr, z.val.cell? ⟨g1, o1 + k * 6 + 2, none⟩ = some (.int .i64 x.low) := fun z => x0 z 2 (by omega)
      have x0_3 : ∀ z : Bl wr, z.val.cell? ⟨g1, o1 + k * 6 + 3, none⟩ = some (.int .i64 x.high) := fun z => x0 z 3 (by omega)
      have x0_4 : ∀ z : Bl wr, z.val.cell? ⟨g1, o1 + k * 6 + 4, none⟩ = some (.int .i64 x.filed) := fun z => x0 z 4 (by omega)
      have x0_5 : ∀ z : Bl wr, z.val.cell? ⟨g1, o1 + k * 6 + 5, none⟩ = some (.bool x.secret) := fun z => x0 z 5 (by omega)
      have y0_0 : ∀ z : Bl wr, z.val.cell? ⟨g2, o2 + k * 6, none⟩ = some (.int .i64 y.ref) := fun z => y0 z 0 (by omega)
      have y0_1 : ∀ z : Bl wr, z.val.cell? ⟨g2, o2 + k * 6 + 1, none⟩ = some (.int .i64 y.act) := fun z => y0 z 1 (by omega)
      have y0_2 : ∀ z : Bl wr, z.val.cell? ⟨g2, o2 + k * 6 + 2, none⟩ = some (.int .i64 y.low) := fun z => y0 z 2 (by omega)
      have y0_3 : ∀ z : Bl wr, z.val.cell? ⟨g2, o2 + k * 6 + 3, none⟩ = some (.int .i64 y.high) := fun z => y0 z 3 (by omega)
      have y0_4 : ∀ z : Bl wr, z.val.cell? ⟨g2, o2 + k * 6 + 4, none⟩ = some (.int .i64 y.filed) := fun z => y0 z 4 (by omega)
      have y0_5 : ∀ z : Bl wr, z.val.cell? ⟨g2, o2 + k * 6 + 5, none⟩ = some (.bool y.secret) := fun z => y0 z 5 (by omega)
      have b1 := kup HBW1.out k0_1
      have b2 := kup HBW1.out k1_1
      have k1 : (k : Int) < (F.length : Int) := by omega
      have k2 : (k : Int) < (G.length : Int) := by omega
      have HXY : Hid (F[k]? = some x ∧ G[k]? = some y) := ⟨hx, hy⟩
      have q2 : ∀ w : World, (Op.equalIn 10000 50 (.agg #[.int .i64 x.ref, .int .i64 x.act, .int .i64 x.low, .int .i64 x.high, .int .i64 x.filed, .bool x.secret]) (.agg #[.int .i64 y.ref, .int .i64 y.act, .int .i64 y.low, .int .i64 y.high, .int .i64 y.filed, .bool y.secret])).run Tryz.prog w = .ok (decide (x = y)) w := fun w => eqFact x y w
      clear hx hy hc1 hc2 x0 y0
      go_upto_region 6 with (fail)
      by_cases he : x = y
      · have HTN : Hid (F.take (k + 1) = G.take (k + 1)) := takeEq HT1.out HXY.out.1 (by rw [he]; exact HXY.out.2)
        rw [decide_eq_true he] at q2
        clear he
        change Code.wp _ _ _ _ (Bl.val (⟨wr, Below.refl _ _⟩ : Bl wr))
        generalize (⟨wr, Below.refl _ _⟩ : Bl wr) = za
        refine wp_region_bl (by kernel_rfl) (by kernel_rfl) ?_
        repeat (go_big_quiet_step (fail))
        refine wpQuiet_nil ?_
        rintro _ ⟨zb, rfl⟩
        have HBZ : Hid (Below W0.heap.size W0 zb.val) := Below.step HBW1.out zb.prop
        clear x0_0 y0_0 x0_1 y0_1 x0_2 y0_2 x0_3 y0_3 x0_4 y0_4 x0_5 y0_5 b1 b2 c1 HBW1
        generalize zb.val = Wd at HBZ ⊢
        go_wp2
        go_roundw
        case rel => exact ⟨k + 1, by omega, by go_num, HTN, HBZ⟩
        case measure => simp [intOf]; omega
      · obtain rfl : E = false := by
         rw [← HE.out]
         refine decide_eq_false (fun h => he ?_)
         simp only [KFile.mk.injEq] at h
         have h1 := HXY.out.1
         rw [h.2.1, HXY.out.2] at h1
         exact (Option.some.inj h1).symm
        rw [decide_eq_false he] at q2
        clear he
        change Code.wp _ _ _ _ (Bl.val (⟨wr, Below.refl _ _⟩ : Bl wr))
        generalize (⟨wr, Below.refl _ _⟩ : Bl wr) = za
        refine wp_region_bl (by kernel_rfl) (by kernel_rfl) ?_
        repeat (go_big_quiet_step (fail))
        refine wpQuiet_nil ?_
        rintro _ ⟨zb, rfl⟩
        have HBZ := Lib.hid (Below.step HB.out (Below.step HBW1.out zb.prop))
        go_wp2
        go_ret
        exact ⟨rfl, HBZ.out⟩
    · obtain rfl : k = F.length := by omega
      clear hk hlt
      have HTF := Lib.hid HT1.out
      go_wp2
      go_loopw [6] (fun v wr => ∃ k : Nat, k ≤ O.length ∧ v = .int .i64 k ∧ Hid (O.take k = P.take k) ∧ Hid (Below W0.heap.size W0 wr)) (fun v _ => O.length - (intOf v).toNat)
      case atStart => exact ⟨0, Nat.zero_le _, rfl, rfl, HBW1.out⟩
      case round =>
       obtain ⟨k, hk, rfl, HT2, HBW2⟩ := hrel
       have c1 := k0_2 ⟨wr, HBW2.out⟩
       simp only at c1
       by_cases hlt : k < O.length
       · have hlt2 : k < P.length := by have := HLEN2.out; omega
         obtain ⟨x, hx⟩ : ∃ x, O[k]? = some x := ⟨_, List.getElem?_eq_getElem hlt⟩
         obtain ⟨y, hy⟩ : ∃ y, P[k]? = some y := ⟨_, List.getElem?_eq_getElem hlt2⟩
         obtain ⟨g1, o1, e1, hg1, hc1⟩ := HF.out.orders.bef (show 0 < O.length by omega)
         obtain ⟨g2, o2, e2, hg2, hc2⟩ := HG.out.orders.bef (show 0 < P.length by omega)
         simp only at e1 e2
         subst e1 e2
         have x0 : ∀ z : Bl wr, ∀ j, j < 2 → z.val.cell? ⟨g1, o1 + k * 2 + j, none⟩ = x.cells[j]? := fun z j hj => hc1 k x hx z.val (Below.step HB.out (Below.step HBW2.out z.prop)) j hj
         have y0 : ∀ z : Bl wr, ∀ j, j < 2 → z.val.cell? ⟨g2, o2 + k * 2 + j, none⟩ = y.cells[j]? := fun z j hj => hc2 k y hy z.val (Below.step HB.out (Below.step HBW2.out z.prop)) j hj
         have x0_0 : ∀ z : Bl wr, z.val.cell? ⟨g1, o1 + k * 2, none⟩ = some (.int .i64 x.ref) := fun z => x0 z 0 (by omega)
         have x0_1 : ∀ z : Bl wr, z.val.cell? ⟨g1, o1 + k * 2 + 1, none⟩ = some (.int .i64 x.next) := fun z => x0 z 1 (by omega)
         have y0_0 : ∀ z : Bl wr, z.val.cell? ⟨g2, o2 + k * 2, none⟩ = some (.int .i64 y.ref) := fun z => y0 z 0 (by omega)
         have y0_1 : ∀ z : Bl wr, z.val.cell? ⟨g2, o2 + k * 2 + 1, none⟩ = some (.int .i64 y.next) := fun z => y0 z 1 (by omega)
         have b1 := kup HBW2.out k0_2
         have b2 := kup HBW2.out k1_2
         have k1 : (k : Int) < (O.length : Int) := by omega
         have k2 : (k : Int) < (P.length : Int) := by omega
         have HXY : Hid (O[k]? = some x ∧ P[k]? = some y) := ⟨hx, hy⟩
         have q2 : ∀ w : World, (Op.equalIn 10000 61 (.agg #[.int .i64 x.ref, .int .i64 x.next]) (.agg #[.int .i64 y.ref, .int .i64 y.next])).run Tryz.prog w = .ok (decide (x = y)) w := fun w => eqBef x y w
         clear hx hy hc1 hc2 x0 y0
         go_upto_region 11 with (fail)
         by_cases he : x = y
         · have HTN : Hid (O.take (k + 1) = P.take (k + 1)) := takeEq HT2.out HXY.out.1 (by rw [he]; exact HXY.out.2)
           rw [decide_eq_true he] at q2
           clear he
           change Code.wp _ _ _ _ (Bl.val (⟨wr, Below.refl _ _⟩ : Bl wr))
           generalize (⟨wr, Below.refl _ _⟩ : Bl wr) = za
           refine wp_region_bl (by kernel_rfl) (by kernel_rfl) ?_
           repeat (go_big_quiet_step (fail))
           refine wpQuiet_nil ?_
           rintro _ ⟨zb, rfl⟩
           have HBZ : Hid (Below W0.heap.size W0 zb.val) := Below.step HBW2.out zb.prop
           clear x0_0 y0_0 x0_1 y0_1 b1 b2 c1 HBW2
           generalize zb.val = Wd at HBZ ⊢
           go_wp2
           go_roundw
           case rel => exact ⟨k + 1, by omega, by go_num, HTN, HBZ⟩
           case measure => simp [intOf]; omega
         · obtain rfl : E = false := by
            rw [← HE.out]
            refine decide_eq_false (fun h => he ?_)
            simp only [KFile.mk.injEq] at h
            have h1 := HXY.out.1
            rw [h.2.2, HXY.out.2] at h1
            exact (Option.some.inj h1).symm
           rw [decide_eq_false he] at q2
           clear he
           change Code.wp _ _ _ _ (Bl.val (⟨wr, Below.refl _ _⟩ : Bl wr))
           generalize (⟨wr, Below.refl _ _⟩ : Bl wr) = za
           refine wp_region_bl (by kernel_rfl) (by kernel_rfl) ?_
           repeat (go_big_quiet_step (fail))
           refine wpQuiet_nil ?_
           rintro _ ⟨zb, rfl⟩
           have HBZ := Lib.hid (Below.step HB.out (Below.step HBW2.out zb.prop))
           go_wp2
           go_ret
           exact ⟨rfl, HBZ.out⟩
       · obtain rfl : k = O.length := by omega
         obtain rfl : E = true := by
          rw [← HE.out]
          refine decide_eq_true ?_
          have h1 := HTF.out
          have h2 := HT2.out
          rw [List.take_length, HLEN1.out, List.take_length] at h1
          rw [List.take_length, HLEN2.out, List.take_length] at h2
          rw [h1, h2, HHO.out]
         have HBZ := Lib.hid (Below.step HB.out HBW2.out)
         go_wp2
         go_ret
         exact ⟨rfl, HBZ.out⟩
 · obtain rfl : E = false := by
    rw [← HE.out]
    refine decide_eq_false (fun h => h0 ?_)
    simp only [KFile.mk.injEq] at h
    exact ⟨h.1, by rw [h.2.1], by rw [h.2.2]⟩
   by_cases p : hx = hy
   · have p0 : (hx != hy) = false := by simp [p]
     by_cases q : F.length = G.length
     · have p1 : ((F.length : Int) != (G.length : Int)) = false := by simp [q]
       have p2 : ((O.length : Int) != (P.length : Int)) = true := by
        simp only [bne_iff_ne, ne_eq]
        intro h
        exact h0 ⟨p, q, by omega⟩
       clear h0 p q
       go_wp2
       go_ret
       exact ⟨rfl, HB.out⟩
     · have p1 : ((F.length : Int) != (G.length : Int)) = true := by simp only [bne_iff_ne, ne_eq]; omega
       clear h0 p q
       go_wp2
       go_ret
       exact ⟨rfl, HB.out⟩
   · have p0 : (hx != hy) = true := by simp [p]
     clear h0 p
     go_wp2
     go_ret
     exact ⟨rfl, HB.out⟩
def fewF (f : KFile) (n : Int) : Bool := decide ((f.facts.length : Int) ≤ n) && decide ((f.orders.length : Int) ≤ n)
set_option maxRecDepth 100000 in
theorem small32_any (f : KFile) (a : FV) (n : Int) (w : World) (hf : FileAt w a f) :
 Calls Tryz.prog 37 #[a.val f, .int .i64 n] w (RetB (.bool (fewF f n)) w) := by
 obtain ⟨⟨aA, ac⟩, ⟨pA, pc⟩⟩ := a
 obtain ⟨hx, F, O⟩ := f
 have l1 := atLen hf.facts
 have l2 := atLen hf.orders
 simp only at l1 l2
 clear hf
 obtain ⟨E, HE⟩ : ∃ E, Hid (fewF (⟨hx, F, O⟩ : KFile) n = E) := ⟨_, rfl⟩
 rw [HE.out]
 simp only [FV.val, FV.cells]
 go_enter Tryz.func37, Tryz.ntmps37
 go_upto_region 1 with (fail)
 generalize hW0 : World.alloc _ _ = W0
 obtain ⟨HB, hh0⟩ := bx1 hW0; clear hW0
 have O0 : Own W0 34 w.heap.size [.int .i64 hx, .slice aA F.length ac, .slice pA O.length pc] := ⟨[], by rw [List.append_nil]; exact hh0⟩
 have e1 := O0.cell (i := 1) rfl
 have e2 := O0.cell (i := 2) rfl
 clear hh0 O0
 have hq : fewF (⟨hx, F, O⟩ : KFile) n = (decide ((F.length : Int) ≤ n) && decide ((O.length : Int) ≤ n)) := rfl
 cases q1 : decide ((F.length : Int) ≤ n) <;> cases q2 : decide ((O.length : Int) ≤ n) <;> (
  rw [q1, q2] at hq
  obtain rfl := HE.out.symm.trans hq
  clear hq
  go_wp2
  go_ret
  exact ⟨rfl, HB.out⟩)
end Go.Proofs.YtahhdjeclbagnaaGreatDoor
