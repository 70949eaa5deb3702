/-
  CuC
-/
import Derived.Test.YtahhdjeclbagnaaGreatDoorQ37
import Derived.Test.YtahhdjeclbagnaaGreatDoorQ09
namespace Go.Proofs.YtahhdjeclbagnaaGreatDoor
open Go.RowKit Go.Shelf
def SomeB (w : World) (e : Ending) (w' : World) : Prop := ∃ x : Bool, e = .returned (.bool x) ∧ Below w.heap.size w w'
set_option maxRecDepth 100000 in
set_option maxHeartbeats 1000000 in
theorem small_any (v : CV) (C : KCon) (n : Int) (w : World) (hC : ConAt w v C) : Calls Tryz.prog 25 #[v.val C, .int .i64 n] w (SomeB w) := by
 obtain ⟨⟨vhA, vhc⟩, ⟨vuA, vuc⟩, ⟨vaA, vac⟩, ⟨vkA, vkc⟩, ⟨voA, voc⟩⟩ := v
 have hx1 : C.holders.length ≤ 9223372036854775807 := by have h1 := hC.holders.2.2.1; have h2 := hC.holders.2.2.2; unfold maxLen at h2; omega
 have hx2 : C.units.length ≤ 9223372036854775807 := by have h1 := hC.units.2.2.1; have h2 := hC.units.2.2.2; unfold maxLen at h2; omega
 have hx3 : C.acts.length ≤ 9223372036854775807 := by have h1 := hC.acts.2.2.1; have h2 := hC.acts.2.2.2; unfold maxLen at h2; omega
 have hx6 : C.off.length ≤ 9223372036854775807 := by have h1 := hC.off.2.2.1; have h2 := hC.off.2.2.2; unfold maxLen at h2; omega
 have hx4 : C.clauses.length ≤ 9223372036854775807 := by
  obtain ⟨ss, g1, g2, g3⟩ := hC.clauses
  have h1 := g2.2.2.1; have h2 := g2.2.2.2; unfold maxLen at h2; omega
 have HC := Lib.hid hC; clear hC
 simp only [CV.val, CV.cells]
 go_enter Tryz.func25, Tryz.ntmps25
 go_upto_region 1 with (fail)
 generalize hW0 : World.alloc _ _ = W0
 obtain ⟨HB, hh0⟩ := Go.Proofs.YtahhdjeclbagnaaGreatDoor.bx1 hW0
 clear hW0
 obtain ⟨k0_0, k0_1, k0_2, k0_3, k0_4, k0_5, k0_6⟩ := Go.Proofs.YtahhdjeclbagnaaGreatDoor.kc7 hh0
 clear hh0
 change Code.wp _ _ _ _ (Bl.val (⟨W0, Below.refl _ _⟩ : Bl W0))
 generalize (⟨W0, Below.refl _ _⟩ : Bl W0) = s0
 cases q0 : decide (20 < (C.holders.length : Int)) with
 | true =>
  go_wp2
  go_ret
  exact ⟨false, rfl, Below.step HB.out (Bl.prop _)⟩
 | false =>
  cases q1 : decide (30 < (C.units.length : Int)) with
  | true =>
   go_wp2
   go_ret
   exact ⟨false, rfl, Below.step HB.out (Bl.prop _)⟩
  | false =>
   cases q2 : decide (70 < (C.acts.length : Int)) with
   | true =>
    go_wp2
    go_ret
    exact ⟨false, rfl, Below.step HB.out (Bl.prop _)⟩
   | false =>
    cases q3 : decide (n < (C.clauses.length : Int)) with
    | true =>
     go_wp2
     go_ret
     exact ⟨false, rfl, Below.step HB.out (Bl.prop _)⟩
    | false =>
     cases q4 : decide (100 < (C.off.length : Int)) with
     | true =>
      go_wp2
      go_ret
      exact ⟨false, rfl, Below.step HB.out (Bl.prop _)⟩
     | false =>
      go_wp2
      go_loopg [5] C.clauses.length (fun gk v5 wr => ∃ (j : Nat) (z : Bl W0), gk = C.clauses.length - j ∧ j ≤ C.clauses.length ∧ v5 = .int .i64 j ∧ wr = z.val)
      case atStart => exact ⟨0, _, rfl, Nat.zero_le _, rfl, rfl⟩
      case round =>
       obtain ⟨j, z, hgk, hj, rfl, rfl⟩ := hrel
       have HGK := Lib.hid hgk; clear hgk
       by_cases hlt : j < C.clauses.length
       · obtain ⟨k, hk⟩ : ∃ k, C.clauses[j]? = some k := ⟨_, List.getElem?_eq_getElem hlt⟩
         obtain ⟨kb, koff, st, hKA, hkb, hkc, hsa⟩ := (HC.out.below (Below.step HB.out z.prop)).clause hk
         simp only at hKA
         subst hKA
         have hsl : k.start.length ≤ 9223372036854775807 := by have h1 := hsa.2.2.1; have h2 := hsa.2.2.2; unfold maxLen at h2; omega
         have x4 : z.val.cell? ⟨kb, koff + j * 16 + 4, none⟩ = some (.slice st.A k.start.length st.c) := hkc z.val (Below.refl _ _) 4 (by omega)
         clear hkc hsa hk
         have j0 : (0 : Int) ≤ (j : Int) := by omega
         have j1 : (j : Int) < (C.clauses.length : Int) := by omega
         cases qs : decide (20 < (k.start.length : Int)) with
         | true =>
          go_wp2
          go_ret
          exact ⟨false, rfl, Below.step HB.out (Bl.prop _)⟩
         | false =>
          go_wp2
          go_roundg (C.clauses.length - (j + 1))
          case measure => rw [HGK.out]; omega
          case rel => exact ⟨j + 1, z, rfl, by omega, by go_num, rfl⟩
       · obtain rfl : j = C.clauses.length := by omega
         go_wp2
         go_ret
         exact ⟨true, rfl, Below.step HB.out (Bl.prop _)⟩
def smallF (fs : List KFile) : Bool := fs.all (fun f => fewF f 14) && decide ((fs.length : Int) ≤ 5)
theorem smallF_len {fs : List KFile} (h : smallF fs = true) : fs.length ≤ 5 ∧ ∀ f ∈ fs, f.facts.length ≤ 14 ∧ f.orders.length ≤ 14 := by
 simp only [smallF, fewF, Bool.and_eq_true, List.all_eq_true, decide_eq_true_eq] at h
 exact ⟨by omega, fun f hf => by have := h.1 f hf; omega⟩
theorem sum_le {α : Type} {g : α → Nat} {c : Nat} : ∀ {l : List α}, (∀ a ∈ l, g a ≤ c) → (l.map g).sum ≤ c * l.length
 | [], _ => by simp
 | a :: l, h => by
  have h1 := h a List.mem_cons_self
  have h2 := sum_le (l := l) (fun b hb => h b (List.mem_cons_of_mem _ hb))
  rw [List.map_cons, List.sum_cons, List.length_cons, Nat.mul_add]
  omega
theorem small_facts {fs : List KFile} (h : ∀ f ∈ fs, f.facts.length ≤ 14 ∧ f.orders.length ≤ 14) (hl : fs.length ≤ 100) : (factsOf fs).length ≤ 4000 ∧ (ordersOf fs).length ≤ 4000 := by
 unfold factsOf ordersOf
 rw [List.length_flatMap, List.length_flatMap]
 have h1 := sum_le (l := fs) (g := fun f => f.facts.length) (fun f hf => (h f hf).1)
 have h2 := sum_le (l := fs) (g := fun f => f.orders.length) (fun f hf => (h f hf).2)
 exact ⟨by omega, by omega⟩
set_option maxRecDepth 100000 in
set_option maxHeartbeats 4000000 in
theorem small35_any (fs : List KFile) (a : SV) (w : World) (hf : FilesAt w a fs) : Calls Tryz.prog 26 #[.slice a.A fs.length a.c] w (RetB (.bool (smallF fs)) w) := by
 obtain ⟨aA, ac⟩ := a
 have hlx : fs.length ≤ 9223372036854775807 := by have := hf.len; omega
 have HF := Lib.hid hf; clear hf
 obtain ⟨E, HE⟩ : ∃ E, Hid (smallF fs = E) := ⟨_, rfl⟩
 rw [HE.out]
 go_enter Tryz.func26, Tryz.ntmps26
 go_wp2
 go_loopw [3] (fun v wr => ∃ k : Nat, k ≤ fs.length ∧ v = .int .i64 k ∧ Hid (∀ f ∈ fs.take k, fewF f 14 = true) ∧ Hid (Below w.heap.size w wr)) (fun v _ => fs.length - (intOf v).toNat)
 case atStart => exact ⟨0, Nat.zero_le _, rfl, (fun f hf => by simp at hf), Below.refl _ _⟩
 case round =>
  obtain ⟨k, hk, rfl, HT, HBW⟩ := hrel
  by_cases hlt : k < fs.length
  · obtain ⟨f, hf⟩ : ∃ f, fs[k]? = some f := ⟨_, List.getElem?_eq_getElem hlt⟩
    obtain ⟨g1, o1, e1, hg1, hc1⟩ := HF.out.form (by omega)
    simp only at e1
    subst e1
    obtain ⟨t, ht, hct⟩ := hc1 k f hf
    have x0 : wr.cell? ⟨g1, o1 + k * 3, none⟩ = some (.int .i64 f.house) := hct wr HBW.out 0 (by omega)
    have x1 : wr.cell? ⟨g1, o1 + k * 3 + 1, none⟩ = some (.slice t.f.A f.facts.length t.f.c) := hct wr HBW.out 1 (by omega)
    have x2 : wr.cell? ⟨g1, o1 + k * 3 + 2, none⟩ = some (.slice t.o.A f.orders.length t.o.c) := hct wr HBW.out 2 (by omega)
    have k1 : (k : Int) < (fs.length : Int) := by omega
    have hs := small32_any f t 14 wr (ht.below HBW.out)
    simp only [FV.val, FV.cells] at hs
    have HX := Lib.hid hf
    clear hf hc1 ht hct
    cases q : fewF f 14 with
    | false =>
     obtain rfl : E = false := by
      rw [← HE.out]
      unfold smallF
      rw [Bool.and_eq_false_iff]
      left
      rw [List.all_eq_false]
      exact ⟨f, List.mem_of_getElem? HX.out, by rw [q]; decide⟩
     rw [q] at hs
     have HS := Lib.hid hs
     clear hs q
     go_wp2_with (go_at_call 37; refine HS.out.mono ?_; rintro e z ⟨rfl, hz⟩; refine Hid.out ?_)
     refine Lib.hid ?_
     have HBZ := Lib.hid (Below.step HBW.out hz)
     clear hz
     go_wp2
     go_ret
     exact ⟨rfl, HBZ.out⟩
    | true =>
     have HTN : Hid (∀ f ∈ fs.take (k + 1), fewF f 14 = true) := fun y hy => by
      rw [List.take_add_one, HX.out] at hy
      rcases List.mem_append.1 hy with h | h
      · exact HT.out y h
      · simp at h; rw [h]; exact q
     rw [q] at hs
     have HS := Lib.hid hs
     clear hs q
     go_wp2_with (go_at_call 37; refine HS.out.mono ?_; rintro e z ⟨rfl, hz⟩; refine Hid.out ?_)
     refine Lib.hid ?_
     have HBZ := Lib.hid (Below.step HBW.out hz)
     clear hz x0 x1 x2
     go_wp2
     go_roundw
     case rel => exact ⟨k + 1, by omega, by go_num, HTN, HBZ⟩
     case measure => simp [intOf]; omega
  · obtain rfl : k = fs.length := by omega
    have HEE : Hid (decide ((fs.length : Int) ≤ 5) = E) := by
     show _ = _
     rw [← HE.out]
     unfold smallF
     have h := HT.out
     rw [List.take_length] at h
     rw [List.all_eq_true.2 h, Bool.true_and]
    cases q : decide ((fs.length : Int) ≤ 5) <;> (
     rw [q] at HEE
     obtain rfl := HEE.out
     go_wp2
     go_ret
     exact ⟨rfl, HBW.out⟩)
def SmallB (fs : List KFile) (w : World) (e : Ending) (w' : World) : Prop := ∃ x : Bool, e = .returned (.bool x) ∧ (x = true → smallF fs = true) ∧ Below w.heap.size w w'
set_option maxRecDepth 100000 in
set_option maxHeartbeats 4000000 in
theorem lsmall_any (v : CV) (C : KCon) (fs : List KFile) (a : SV) (w : World) (hC : ConAt w v C) (hf : FilesAt w a fs) : Calls Tryz.prog 10 #[v.val C, .slice a.A fs.length a.c] w (SmallB fs w) := by
 obtain ⟨⟨vhA, vhc⟩, ⟨vuA, vuc⟩, ⟨vaA, vac⟩, ⟨vkA, vkc⟩, ⟨voA, voc⟩⟩ := v
 have HC := Lib.hid hC; clear hC
 have HF := Lib.hid hf; clear hf
 simp only [CV.val, CV.cells]
 go_enter Tryz.func10, Tryz.ntmps10
 go_upto_region 1 with (fail)
 generalize hW0 : World.alloc _ _ = W0
 obtain ⟨HB, hh0⟩ := bx1 hW0; clear hW0
 obtain ⟨k0, k1, k2, k3, k4, k5, k6⟩ := kc7 hh0
 have e0 := k0 ⟨W0, Below.refl _ _⟩
 have e1 := k1 ⟨W0, Below.refl _ _⟩
 have e2 := k2 ⟨W0, Below.refl _ _⟩
 have e3 := k3 ⟨W0, Below.refl _ _⟩
 have e4 := k4 ⟨W0, Below.refl _ _⟩
 have e5 := k5 ⟨W0, Below.refl _ _⟩
 have e6 := k6 ⟨W0, Below.refl _ _⟩
 have K5 := Lib.hid k5
 clear hh0 k0 k1 k2 k3 k4 k5 k6
 simp only at e0 e1 e2 e3 e4 e5 e6
 have hs := small_any (⟨⟨vhA, vhc⟩, ⟨vuA, vuc⟩, ⟨vaA, vac⟩, ⟨vkA, vkc⟩, ⟨voA, voc⟩⟩ : CV) C 20 W0 (HC.out.below HB.out)
 simp only [CV.val, CV.cells] at hs
 have HS := Lib.hid hs
 clear hs
 go_wp2_with (go_at_call 25; refine HS.out.mono ?_; rintro e z ⟨x, rfl, hz⟩; refine Hid.out ?_)
 refine Lib.hid ?_
 have y5 := K5.out ⟨z, hz⟩
 simp only at y5
 have HBZ := Lib.hid (Below.step HB.out hz)
 clear e0 e1 e2 e3 e4 e5 e6 hz K5 HS
 cases x with
 | false =>
  go_wp2
  go_ret
  exact ⟨false, rfl, (fun h => by cases h), HBZ.out⟩
 | true =>
  cases q : decide (C.days ≤ 60) with
  | false =>
   go_wp2
   go_ret
   exact ⟨false, rfl, (fun h => by cases h), HBZ.out⟩
  | true =>
   have HS := Lib.hid (small35_any fs a z (HF.out.below HBZ.out))
   go_wp2_with (go_at_call 26; refine HS.out.mono ?_; rintro e z1 ⟨rfl, hz1⟩; refine Hid.out ?_)
   refine Lib.hid ?_
   have HBY := Lib.hid (Below.step HBZ.out hz1)
   clear hz1 HS y5 q
   obtain ⟨E, HE⟩ : ∃ E, Hid (smallF fs = E) := ⟨_, rfl⟩
   rw [HE.out]
   cases E with
   | false =>
    go_wp2
    go_ret
    exact ⟨false, rfl, (fun h => by cases h), HBY.out⟩
   | true =>
    go_wp2
    go_ret
    exact ⟨true, rfl, (fun _ => HE.out), HBY.out⟩
def sameF (f g : KFile) : Bool := decide (f.facts = g.facts ∧ f.orders = g.orders)
set_option maxRecDepth 100000 in
set_option maxHeartbeats 4000000 in
theorem alike_any (f g : KFile) (a b : FV) (w : World) (hf : FileAt w a f) (hg : FileAt w b g) :
 Calls Tryz.prog 13 #[a.val f, b.val g] w (RetB (.bool (sameF f g)) w) := by
 obtain ⟨⟨aA, ac⟩, ⟨pA, pc⟩⟩ := a
 obtain ⟨⟨bA, bc⟩, ⟨qA, qc⟩⟩ := b
 obtain ⟨hx, F, O⟩ := f
 obtain ⟨hy, G, P⟩ := g
 have HF := Lib.hid hf; clear hf
 have HG := Lib.hid hg; clear hg
 obtain ⟨E, HE⟩ : ∃ E, Hid (sameF (⟨hx, F, O⟩ : KFile) ⟨hy, G, P⟩ = E) := ⟨_, rfl⟩
 rw [HE.out]
 simp only [FV.val, FV.cells]
 go_enter Tryz.func13, Tryz.ntmps13
 go_upto_region 1 with (fail)
 generalize hW0 : World.alloc _ _ = W0
 obtain ⟨HB, hh0, hh1⟩ := bx2 hW0; clear hW0
 have O0 : Own W0 34 w.heap.size [.int .i64 hx, .slice aA F.length ac, .slice pA O.length pc] := ⟨[], by rw [List.append_nil]; exact hh0⟩
 have O1 : Own W0 34 (w.heap.size + 1) [.int .i64 hy, .slice bA G.length bc, .slice qA P.length qc] := ⟨[], by rw [List.append_nil]; exact hh1⟩
 have e0 := O1.cell (i := 0) rfl
 have f0 := O0.frozen 0
 have d0 := O0.cell (i := 0) rfl
 have H0 := Lib.hid O0
 have H1 := Lib.hid O1
 clear hh0 hh1 O0 O1
 go_upto_region 2 with (fail)
 generalize hW1 : World.setCell _ _ _ = W1
 have hu : Upd (fun k => k = w.heap.size) W0 W1 := by rw [← hW1]; exact (Upd.refl (fun k => k = w.heap.size) W0).setCell (p := ⟨w.heap.size, 0, none⟩) (.inl rfl) _
 have o0 : Own W1 34 w.heap.size [.int .i64 hy, .slice aA F.length ac, .slice pA O.length pc] := by rw [← hW1]; exact H0.out.set (i := 0) (by simp) _
 have o1 := H1.out.keep hu (by omega)
 have HB1 : Hid (Below w.heap.size w W1) := HB.out.trans (hu.below HB.out.size (fun k e => by omega))
 have g0 := o0.cell (i := 0) rfl
 have g1 := o0.cell (i := 1) rfl
 have g2 := o0.cell (i := 2) rfl
 have i0 := o1.cell (i := 0) rfl
 have i1 := o1.cell (i := 1) rfl
 have i2 := o1.cell (i := 2) rfl
 have hs := fileSame_any ⟨hy, F, O⟩ ⟨hy, G, P⟩ ⟨⟨aA, ac⟩, ⟨pA, pc⟩⟩ ⟨⟨bA, bc⟩, ⟨qA, qc⟩⟩ W1 ⟨HF.out.facts.below (by omega) HB1.out, HF.out.orders.below (by omega) HB1.out⟩ ⟨HG.out.facts.below (by omega) HB1.out, HG.out.orders.below (by omega) HB1.out⟩
 rw [show decide ((⟨hy, F, O⟩ : KFile) = ⟨hy, G, P⟩) = E by rw [← HE.out]; unfold sameF; simp only [KFile.mk.injEq, true_and]] at hs
 simp only [FV.val, FV.cells] at hs
 have HS := Lib.hid hs
 clear hs e0 f0 d0 hW1 hu o0 o1
 go_wp2_with (go_at_call 14; refine HS.out.mono ?_; rintro e z ⟨rfl, hz⟩; refine Hid.out ?_)
 refine Lib.hid ?_
 go_wp2
 go_ret
 exact ⟨rfl, Below.step HB1.out hz⟩
def negF (F : List KFact) : Bool := F.any (fun x => decide (x.act < 0))
set_option maxRecDepth 100000 in
set_option maxHeartbeats 4000000 in
theorem negative_any (F : List KFact) (a : SV) (w : World) (hF : At w 6 a.A F.length a.c (factCells F)) :
 Calls Tryz.prog 23 #[.slice a.A F.length a.c] w (RetB (.bool (negF F)) w) := by
 obtain ⟨aA, ac⟩ := a
 have hlx := atLen hF
 have HF := Lib.hid hF; clear hF
 obtain ⟨E, HE⟩ : ∃ E, Hid (negF F = E) := ⟨_, rfl⟩
 rw [HE.out]
 go_enter Tryz.func23, Tryz.ntmps23
 go_wp2
 go_loopw [3] (fun v wr => ∃ k : Nat, k ≤ F.length ∧ v = .int .i64 k ∧ Hid (∀ y ∈ F.take k, 0 ≤ y.act) ∧ Hid (Below w.heap.size w wr)) (fun v _ => F.length - (intOf v).toNat)
 case atStart => exact ⟨0, Nat.zero_le _, rfl, (fun y hy => by simp at hy), Below.refl _ _⟩
 case round =>
  obtain ⟨k, hk, rfl, HT, HBW⟩ := hrel
  by_cases hlt : k < F.length
  · obtain ⟨x, hx⟩ : ∃ x, F[k]? = some x := ⟨_, List.getElem?_eq_getElem hlt⟩
    obtain ⟨g1, o1, e1, hg1, hc1⟩ := HF.out.fact (by omega)
    subst e1
    have x0 : wr.cell? ⟨g1, o1 + k * 6 + 1, none⟩ = some (.int .i64 x.act) := hc1 k x hx wr HBW.out 1 (by omega)
    have k1 : (k : Int) < (F.length : Int) := by omega
    have HX := Lib.hid hx
    clear hx hc1
    by_cases he : x.act < 0
    · obtain rfl : E = true := by
       rw [← HE.out]
       exact List.any_eq_true.2 ⟨x, List.mem_of_getElem? HX.out, decide_eq_true he⟩
      go_wp2
      go_ret
      exact ⟨rfl, HBW.out⟩
    · have HTN : Hid (∀ y ∈ F.take (k + 1), 0 ≤ y.act) := fun y hy => by
       rw [List.take_add_one, HX.out] at hy
       rcases List.mem_append.1 hy with h | h
       · exact HT.out y h
       · simp at h; rw [h]; omega
      go_wp2
      go_roundw
      case rel => exact ⟨k + 1, by omega, by go_num, HTN, HBW⟩
      case measure => simp [intOf]; omega
  · obtain rfl : k = F.length := by omega
    obtain rfl : E = false := by
     rw [← HE.out]
     unfold negF
     rw [List.any_eq_false]
     have h := HT.out
     rw [List.take_length] at h
     intro x hx
     have := h x hx
     simp; omega
    go_wp2
    go_ret
    exact ⟨rfl, HBW.out⟩
end Go.Proofs.YtahhdjeclbagnaaGreatDoor
