/-
  CsI; CsY
-/
import Derived.Test.YtahhdjeclbagnaaGreatDoorQ29
import Derived.Test.YtahhdjeclbagnaaGreatDoorQ23
import Derived.Test.YtahhdjeclbagnaaGreatDoorQ19
namespace Go.Proofs.YtahhdjeclbagnaaGreatDoor
open Go.RowKit Go.Shelf
theorem okOrdL_mem {F : List KFact} : ∀ {O : List KBef} {p : Option KBef}, okOrdL F p O = true → ∀ b ∈ O, hasRef F b.ref = true ∧ hasRef F b.next = true ∧ b.ref ≠ b.next
 | [], _, _, b, hb => by cases hb
 | a :: O, p, h, b, hb => by
  simp only [okOrdL, Bool.and_eq_true, Bool.not_eq_true', beq_eq_false_iff_ne] at h
  rcases List.mem_cons.1 hb with e | e
  · subst e; exact ⟨h.1, h.2.1, h.2.2.1⟩
  · exact okOrdL_mem h.2.2.2.2 b e
theorem hasRef_iff {F : List KFact} {r : Int} : hasRef F r = true ↔ ∃ x ∈ F, x.ref = r := by simp [hasRef]
theorem okFile_ords {C : KCon} {f : KFile} (h : okFile C f = true) : okOrdL f.facts none f.orders = true := by
 simp only [okFile, Bool.and_eq_true] at h
 exact h.2.2.2.2
theorem okFile_facts {C : KCon} {f : KFile} (h : okFile C f = true) : okFactsL C 0 f.facts = true := by
 simp only [okFile, Bool.and_eq_true] at h
 exact h.2.2.2.1
theorem okFile_known {C : KCon} {fs : List KFile} (h : ∀ f ∈ fs, okFile C f = true) : KnownL (factsOf fs) (ordersOf fs) := fun b hb => by
 obtain ⟨f, hf, hbf⟩ := List.mem_flatMap.1 hb
 obtain ⟨h1, h2, _⟩ := okOrdL_mem (okFile_ords (h f hf)) b hbf
 obtain ⟨x, hx, e1⟩ := hasRef_iff.1 h1
 obtain ⟨y, hy, e2⟩ := hasRef_iff.1 h2
 exact ⟨⟨x, List.mem_flatMap.2 ⟨f, hf, hx⟩, e1⟩, y, List.mem_flatMap.2 ⟨f, hf, hy⟩, e2⟩
theorem stored3X {z Wf : World} {t : TypeId} {rs : Nat} {x0 x1 x2 a b c : Value} (h : Own z t rs [x0, x1, x2]) (hW : Wf = ((z.setCell ⟨rs, 0, none⟩ a).setCell ⟨rs, 1, none⟩ b).setCell ⟨rs, 2, none⟩ c) :
 Wf.cell? ⟨rs, 0, none⟩ = some a ∧ Wf.cell? ⟨rs, 1, none⟩ = some b ∧ Wf.cell? ⟨rs, 2, none⟩ = some c ∧ Upd (fun k => k = rs) z Wf := by
 have hr : Own Wf t rs [a, b, c] := by
  rw [hW]
  exact ((h.set (i := 0) (by simp) _).set (i := 1) (by simp) _).set (i := 2) (by simp) _
 refine ⟨hr.cell rfl, hr.cell rfl, hr.cell rfl, ?_⟩
 rw [hW]
 exact (((Upd.refl (fun k => k = rs) _).setCell (.inl rfl) _).setCell (.inl rfl) _).setCell (.inl rfl) _
def AllOk (C : KCon) (fs : List KFile) : Prop := fs ≠ [] ∧ ∀ f ∈ fs, okFile C f = true
def JoinRes (C : KCon) (fs : List KFile) (ho' : Int) (F' : List KFact) (O' : List KBef) (er : Int) : Prop :=
 (er = 1 ∧ ho' = 0 ∧ F' = [] ∧ O' = [] ∧ ¬ AllOk C fs) ∨ (AllOk C fs ∧ ∃ f0, fs[0]? = some f0 ∧ JoinIs f0.house (factsOf fs) (ordersOf fs) ho' F' O' er)
def JoinedPost (C : KCon) (fs : List KFile) (w : World) (e : Ending) (w' : World) : Prop :=
 ∃ (ho' : Int) (F' : List KFact) (O' : List KBef) (er : Int) (A : Option Addr) (c : Nat) (A' : Option Addr) (c' : Nat), e = .returned (.tuple #[.agg #[.int .i64 ho', .slice A F'.length c, .slice A' O'.length c'], .int .i64 er]) ∧ FileAt w' ⟨⟨A, c⟩, ⟨A', c'⟩⟩ ⟨ho', F', O'⟩ ∧ ((∀ b off, A = some ⟨b, off, none⟩ → w.heap.size ≤ b) ∧ ∀ b off, A' = some ⟨b, off, none⟩ → w.heap.size ≤ b) ∧ Below w.heap.size w w' ∧ JoinRes C fs ho' F' O' er
set_option maxRecDepth 100000 in
set_option maxHeartbeats 4000000 in
theorem join_any (v : CV) (C : KCon) (sv : SV) (fs : List KFile) (w : World) (hC : ConAt w v C) (hF : FilesAt w sv fs) (hn : fs.length ≤ 100) (hR : ∀ x ∈ factsOf fs, In64 x.ref) (hL : (factsOf fs).length ≤ 4000) (hO : (ordersOf fs).length ≤ 4000) :
 Calls Tryz.prog 11 #[v.val C, .slice sv.A fs.length sv.c] w (JoinedPost C fs w) := by
 obtain ⟨⟨vhA, vhc⟩, ⟨vuA, vuc⟩, ⟨vaA, vac⟩, ⟨vkA, vkc⟩, ⟨voA, voc⟩⟩ := v
 obtain ⟨sA, sc⟩ := sv
 have HC := Lib.hid hC; clear hC
 have HF := Lib.hid hF; clear hF
 have HR := Lib.hid hR; clear hR
 have HL := Lib.hid hL; clear hL
 have HO := Lib.hid hO; clear hO
 simp only [CV.val, CV.cells]
 go_enter Tryz.func11, Tryz.ntmps11
 go_upto_region 1 with (fail)
 generalize hW0 : World.alloc _ _ = W0
 obtain ⟨HB, hh0, hh1⟩ := bx2 hW0; clear hW0
 obtain ⟨k0_0, k0_1, k0_2, k0_3, k0_4, k0_5, k0_6⟩ := kc7 hh0
 have HRS : Hid (W0.heap[w.heap.size + 1]? = some (.cells #[.int .i64 0, .slice none 0 0, .slice none 0 0] 34 (0, 0))) := hh1
 have hs0 := lt_of_heap hh1
 clear hh0 hh1
 have HOW : Hid (∀ z : Bl W0, Own z.val 34 (w.heap.size + 1) [.int .i64 0, .slice none 0 0, .slice none 0 0]) := fun z => ⟨[], by rw [List.append_nil]; exact (z.prop.block _ hs0).trans HRS.out⟩
 have r0 : ∀ z : Bl W0, z.val.cell? ⟨w.heap.size + 1, 0, none⟩ = some (.int .i64 0) := fun z => (HOW.out z).cell rfl
 have r1 : ∀ z : Bl W0, z.val.cell? ⟨w.heap.size + 1, 1, none⟩ = some (.slice none 0 0) := fun z => (HOW.out z).cell rfl
 have r2 : ∀ z : Bl W0, z.val.cell? ⟨w.heap.size + 1, 2, none⟩ = some (.slice none 0 0) := fun z => (HOW.out z).cell rfl
 have y0 : ∀ z : Bl W0, z.val.frozen? ⟨w.heap.size + 1, 0, none⟩ = false := fun z => (HOW.out z).frozen 0
 have y1 : ∀ z : Bl W0, z.val.frozen? ⟨w.heap.size + 1, 1, none⟩ = false := fun z => (HOW.out z).frozen 1
 have y2 : ∀ z : Bl W0, z.val.frozen? ⟨w.heap.size + 1, 2, none⟩ = false := fun z => (HOW.out z).frozen 2
 change Code.wp _ _ _ _ (Bl.val (⟨W0, Below.refl _ _⟩ : Bl W0))
 generalize (⟨W0, Below.refl _ _⟩ : Bl W0) = s0
 have HBZ : Hid (∀ z : Bl W0, Below w.heap.size w z.val) := fun z => Below.step HB.out z.prop
 by_cases hn0 : fs.length = 0
 · have hfs : fs = [] := List.eq_nil_of_length_eq_zero hn0
   subst hfs
   have n0 : ((0 : Nat) : Int) = 0 := rfl
   go_wp2
   obtain ⟨Wf, HWf⟩ : ∃ Wf, Hid (Wf = ((s0.val.setCell ⟨w.heap.size + 1, 0, none⟩ (.int .i64 0)).setCell ⟨w.heap.size + 1, 1, none⟩ (.slice none 0 0)).setCell ⟨w.heap.size + 1, 2, none⟩ (.slice none 0 0)) := ⟨_, rfl⟩
   rw [← HWf.out]
   obtain ⟨d0, d1, d2, hUf⟩ := stored3X (HOW.out s0) HWf.out
   refine bodyPost_ret (v := .tuple #[.agg #[.int .i64 0, .slice none 0 0, .slice none 0 0], .int .i64 1]) (by simp [results, Tryz.results11, go_sem, d0, d1, d2]) rfl ⟨0, [], [], 1, none, 0, none, 0, rfl, ⟨at_nilX _ _, at_nilX _ _⟩, ⟨fun b off e => (by cases e), fun b off e => (by cases e)⟩, (HBZ.out s0).trans (hUf.below (HBZ.out s0).size (fun k hk => by omega)), .inl ⟨rfl, rfl, rfl, rfl, fun h => h.1 rfl⟩⟩
 · have n0 : ((fs.length : Int) == 0) = false := by simp; intro h; subst h; simp at hn0
   have n1 : ¬ ((fs.length : Int) = 0) := by omega
   obtain ⟨f0, h0⟩ : ∃ f0, fs[0]? = some f0 := ⟨_, List.getElem?_eq_getElem (by omega)⟩
   obtain ⟨fb, fo, hA0, hfb, hfile⟩ := HF.out.form (by omega)
   simp only at hA0
   subst hA0
   have HFILE := Lib.hid hfile; clear hfile
   have H0 := Lib.hid h0; clear h0
   go_wp2
   go_loopg [14] fs.length (fun gk v14 wr => ∃ (k : Nat) (z : Bl W0), gk = fs.length - k ∧ k ≤ fs.length ∧ v14 = .int .i64 k ∧ wr = z.val ∧ Hid (∀ (i : Nat) (f : KFile), i < k → fs[i]? = some f → okFile C f = true))
   case atStart => exact ⟨0, s0, rfl, Nat.zero_le _, rfl, rfl, fun i f h => absurd h (Nat.not_lt_zero _)⟩
   case round =>
    obtain ⟨k, z, hgk, hk, rfl, rfl, HP⟩ := hrel
    have HGK := Lib.hid hgk; clear hgk
    by_cases hlt : k < fs.length
    · obtain ⟨⟨ho, F, O⟩, hx⟩ : ∃ x, fs[k]? = some x := ⟨fs[k], List.getElem?_eq_getElem hlt⟩
      obtain ⟨⟨⟨gA, gc⟩, ⟨qA, qc⟩⟩, hfa, hcell⟩ := HFILE.out k _ hx
      have e0 : z.val.cell? ⟨fb, fo + k * 3, none⟩ = some (.int .i64 ho) := hcell z.val (HBZ.out z) 0 (by omega)
      have e1 : z.val.cell? ⟨fb, fo + k * 3 + 1, none⟩ = some (.slice gA F.length gc) := hcell z.val (HBZ.out z) 1 (by omega)
      have e2 : z.val.cell? ⟨fb, fo + k * 3 + 2, none⟩ = some (.slice qA O.length qc) := hcell z.val (HBZ.out z) 2 (by omega)
      have HFA := Lib.hid hfa; clear hfa
      have HX := Lib.hid hx; clear hx hcell
      have kF : (k : Int) < (fs.length : Int) := by omega
      go_upto_region 6 with (fail)
      generalize hWa : World.alloc _ _ = Wa
      obtain ⟨hba, hxa⟩ := bx1' hWa
      clear hWa
      have HPa : Hid (Below W0.heap.size W0 Wa) := Below.step z.prop hba
      obtain ⟨d0, d1, d2⟩ := kc3 hxa
      have c0 := kup HPa.out k0_0
      have c1 := kup HPa.out k0_1
      have c2 := kup HPa.out k0_2
      have c3 := kup HPa.out k0_3
      have c4 := kup HPa.out k0_4
      have c5 := kup HPa.out k0_5
      have c6 := kup HPa.out k0_6
      have u0 := kup HPa.out r0
      have u1 := kup HPa.out r1
      have u2 := kup HPa.out r2
      have HBA : Hid (∀ s : Bl Wa, Below W0.heap.size W0 s.val) := fun s => Below.step HPa.out s.prop
      have v0 : ∀ s : Bl Wa, s.val.frozen? ⟨w.heap.size + 1, 0, none⟩ = false := fun s => y0 ⟨s.val, HBA.out s⟩
      have v1 : ∀ s : Bl Wa, s.val.frozen? ⟨w.heap.size + 1, 1, none⟩ = false := fun s => y1 ⟨s.val, HBA.out s⟩
      have v2 : ∀ s : Bl Wa, s.val.frozen? ⟨w.heap.size + 1, 2, none⟩ = false := fun s => y2 ⟨s.val, HBA.out s⟩
      have HVF := Lib.hid (fun s : Bl Wa => fileValid_any (⟨⟨vhA, vhc⟩, ⟨vuA, vuc⟩, ⟨vaA, vac⟩, ⟨vkA, vkc⟩, ⟨voA, voc⟩⟩ : CV) C ⟨⟨gA, gc⟩, ⟨qA, qc⟩⟩ ⟨ho, F, O⟩ s.val (HC.out.below (Below.step HB.out (HBA.out s))) (HFA.out.below (Below.step HB.out (HBA.out s))))
      simp only [CV.val, CV.cells, FV.val, FV.cells] at HVF
      clear e0 e1 e2 hxa hba k0_0 k0_1 k0_2 k0_3 k0_4 k0_5 k0_6 r0 r1 r2 y0 y1 y2
      change Code.wp _ _ _ _ (Bl.val (⟨Wa, Below.refl _ _⟩ : Bl Wa))
      generalize (⟨Wa, Below.refl _ _⟩ : Bl Wa) = sa
      generalize hE : okFile C ⟨ho, F, O⟩ = E at HVF
      have HE := Lib.hid hE; clear hE
      go_wp2_with (go_at_call 12; refine (HVF.out _).mono ?_; rintro e z2 ⟨rfl, hz⟩; obtain ⟨z2, rfl⟩ := Bl.on hz; clear hz; refine Hid.out ?_)
      refine Lib.hid ?_
      cases E with
      | false =>
       have HNO : Hid (¬ AllOk C fs) := fun h => by have h2 := h.2 _ (List.mem_of_getElem? HX.out); rw [HE.out] at h2; cases h2
       obtain ⟨s2, hs2⟩ : ∃ s2 : Bl W0, z2.val = s2.val := ⟨⟨z2.val, HBA.out z2⟩, rfl⟩
       have HS2 := Lib.hid hs2; clear hs2
       go_wp2
       rw [HS2.out]
       obtain ⟨Wf, HWf⟩ : ∃ Wf, Hid (Wf = ((s2.val.setCell ⟨w.heap.size + 1, 0, none⟩ (.int .i64 0)).setCell ⟨w.heap.size + 1, 1, none⟩ (.slice none 0 0)).setCell ⟨w.heap.size + 1, 2, none⟩ (.slice none 0 0)) := ⟨_, rfl⟩
       rw [← HWf.out]
       obtain ⟨d0, d1, d2, hUf⟩ := stored3X (HOW.out s2) HWf.out
       refine bodyPost_ret (v := .tuple #[.agg #[.int .i64 0, .slice none 0 0, .slice none 0 0], .int .i64 1]) (by simp [results, Tryz.results11, go_sem, d0, d1, d2]) rfl ⟨0, [], [], 1, none, 0, none, 0, rfl, ⟨at_nilX _ _, at_nilX _ _⟩, ⟨fun b off e => (by cases e), fun b off e => (by cases e)⟩, (HBZ.out s2).trans (hUf.below (HBZ.out s2).size (fun k hk => by omega)), .inl ⟨rfl, rfl, rfl, rfl, HNO.out⟩⟩
      | true =>
       have HP2 : Hid (∀ (i : Nat) (f : KFile), i < k + 1 → fs[i]? = some f → okFile C f = true) := fun i f hi hf => by
        by_cases e : i = k
        · subst e
          rw [HX.out] at hf
          cases hf
          exact HE.out
        · exact HP.out i f (by omega) hf
       obtain ⟨s2, hs2⟩ : ∃ s2 : Bl W0, z2.val = s2.val := ⟨⟨z2.val, HBA.out z2⟩, rfl⟩
       have HS2 := Lib.hid hs2; clear hs2
       go_wp2
       go_roundg (fs.length - (k + 1))
       case measure => rw [HGK.out]; omega
       case rel => exact ⟨k + 1, s2, rfl, by omega, by go_num, HS2.out, HP2⟩
    · obtain rfl : k = fs.length := by omega
      have HALL : Hid (AllOk C fs) := ⟨fun e => by rw [e] at hn0; exact hn0 rfl, fun f hf => by
       obtain ⟨i, hi⟩ := List.mem_iff_getElem?.1 hf
       exact HP.out i f (List.getElem?_eq_some_iff.1 hi).1 hi⟩
      have HJN := Lib.hid (joined_any fs ⟨some ⟨fb, fo, none⟩, sc⟩ f0 z.val (HF.out.below (HBZ.out z)) H0.out hn HR.out HL.out HO.out (okFile_known HALL.out.2))
      simp only at HJN
      clear HP hlt HGK
      go_wp2_with (go_at_call 27; refine HJN.out.mono ?_; rintro e z2 ⟨ho', F', O', er, A, c, A', c', rfl, hfa, hnw, hb, hj⟩; obtain ⟨z2, rfl⟩ := Bl.on hb; refine Hid.out ?_)
      refine Lib.hid ?_
      have HFA := Lib.hid hfa; clear hfa
      have HJ := Lib.hid hj; clear hj hb
      have HNW := Lib.hid hnw; clear hnw
      have hsz := z.prop.size
      go_wp2
      obtain ⟨Wf, HWf⟩ : ∃ Wf, Hid (Wf = ((z2.val.setCell ⟨w.heap.size + 1, 0, none⟩ (.int .i64 ho')).setCell ⟨w.heap.size + 1, 1, none⟩ (.slice A F'.length c)).setCell ⟨w.heap.size + 1, 2, none⟩ (.slice A' O'.length c')) := ⟨_, rfl⟩
      rw [← HWf.out]
      obtain ⟨d0, d1, d2, hUf⟩ := stored3X (HOW.out z2) HWf.out
      refine bodyPost_ret (v := .tuple #[.agg #[.int .i64 ho', .slice A F'.length c, .slice A' O'.length c'], .int .i64 er]) (by simp [results, Tryz.results11, go_sem, d0, d1, d2]) rfl ⟨ho', F', O', er, A, c, A', c', rfl, ⟨updAt HFA.out.facts (by omega) hUf (fun b off e h => ?_), updAt HFA.out.orders (by omega) hUf (fun b off e h => ?_)⟩, ⟨fun b off e => ?_, fun b off e => ?_⟩, (HBZ.out z2).trans (hUf.below (HBZ.out z2).size (fun k hk => by omega)), .inr ⟨HALL.out, f0, H0.out, HJ.out⟩⟩
      · have := HNW.out.1 b off e; omega
      · have := HNW.out.2 b off e; omega
      · have := HNW.out.1 b off e; omega
      · have := HNW.out.2 b off e; omega
end Go.Proofs.YtahhdjeclbagnaaGreatDoor
namespace Go.Proofs.YtahhdjeclbagnaaGreatDoor
open Go.RowKit Go.Shelf
def Clash (C : KCon) (f g : KFile) : Prop := okFile C f = true ∧ okFile C g = true ∧ Evid (f.facts ++ g.facts) (f.orders ++ g.orders)
def NoneTo (C : KCon) (fs : List KFile) (m n : Nat) : Prop := ∀ (m' n' : Nat) (f g : KFile), m' < n' → m' < m ∨ (m' = m ∧ n' < n) → fs[m']? = some f → fs[n']? = some g → ¬ Clash C f g
def ConflictIs (C : KCon) (fs : List KFile) (i j : Int) (b : Bool) : Prop :=
 (b = false ∧ i = 0 ∧ j = 0 ∧ NoneTo C fs fs.length 0) ∨
 (b = true ∧ ∃ (m n : Nat) (f g : KFile), i = m ∧ j = n ∧ m < n ∧ fs[m]? = some f ∧ fs[n]? = some g ∧ Clash C f g ∧ NoneTo C fs m n)
def ConflictPost (C : KCon) (fs : List KFile) (w : World) (e : Ending) (w' : World) : Prop :=
 ∃ (i j : Int) (b : Bool), e = .returned (.tuple #[.int .i64 i, .int .i64 j, .bool b]) ∧ Below w.heap.size w w' ∧ ConflictIs C fs i j b
theorem NoneTo.zero (C : KCon) (fs : List KFile) : NoneTo C fs 0 0 := fun m n f g h h1 => by omega
theorem NoneTo.step {C : KCon} {fs : List KFile} {m n : Nat} {f g : KFile} (h : NoneTo C fs m n) (hm : fs[m]? = some f) (hn : fs[n]? = some g) (hc : ¬ Clash C f g) : NoneTo C fs m (n + 1) := fun m' n' f' g' hlt ho hm' hn' => by
 by_cases e : m' = m ∧ n' = n
 · obtain ⟨rfl, rfl⟩ := e
   rw [hm] at hm'; rw [hn] at hn'
   cases hm'; cases hn'
   exact hc
 · exact h m' n' f' g' hlt (by omega) hm' hn'
theorem NoneTo.next {C : KCon} {fs : List KFile} {m n : Nat} (h : NoneTo C fs m n) (hn : fs.length ≤ n) : NoneTo C fs (m + 1) (m + 2) := fun m' n' f' g' hlt ho hm' hn' => by
 have h2 := (List.getElem?_eq_some_iff.1 hn').1
 exact h m' n' f' g' hlt (by omega) hm' hn'
theorem NoneTo.from {C : KCon} {fs : List KFile} {m n : Nat} (h : NoneTo C fs m n) : NoneTo C fs m (m + 1) := fun m' n' f' g' hlt ho hm' hn' => h m' n' f' g' hlt (by omega) hm' hn'
theorem NoneTo.bad {C : KCon} {fs : List KFile} {m n : Nat} {f : KFile} (h : NoneTo C fs m n) (hm : fs[m]? = some f) (hb : okFile C f = false) : NoneTo C fs (m + 1) (m + 2) := fun m' n' f' g' hlt ho hm' hn' hc => by
 by_cases e : m' = m
 · subst e
   rw [hm] at hm'; cases hm'
   rw [hc.1] at hb; cases hb
 · exact h m' n' f' g' hlt (by omega) hm' hn' hc
def boolC (l : List Bool) : List Value := l.map Value.bool
def okTo (C : KCon) (fs : List KFile) (k : Nat) : List Bool := (fs.take k).map (okFile C) ++ List.replicate (fs.length - k) false
theorem okTo_len {C : KCon} {fs : List KFile} {k : Nat} (hk : k ≤ fs.length) : (okTo C fs k).length = fs.length := by simp [okTo]; omega
theorem boolC_get {l : List Bool} {i : Nat} {b : Bool} (h : l[i]? = some b) : (boolC l)[i]? = some (.bool b) := by simp [boolC, h]
theorem boolC_len (l : List Bool) : (boolC l).length = l.length := by simp [boolC]
theorem boolC_set (l : List Bool) (i : Nat) (b : Bool) : (boolC l).set i (.bool b) = boolC (l.set i b) := by simp [boolC, List.map_set]
theorem okTo_succ {C : KCon} {fs : List KFile} {k : Nat} {f : KFile} (hf : fs[k]? = some f) : (okTo C fs k).set k (okFile C f) = okTo C fs (k + 1) := by
 have hk : k < fs.length := (List.getElem?_eq_some_iff.1 hf).1
 unfold okTo
 rw [List.set_append, if_neg (by simp; omega), List.length_map, List.length_take, Nat.min_eq_left (by omega), Nat.sub_self, show fs.length - k = (fs.length - (k + 1)) + 1 by omega, List.replicate_succ, List.set_cons_zero, List.take_add_one, hf]
 simp
theorem okTo_all {C : KCon} {fs : List KFile} : okTo C fs fs.length = fs.map (okFile C) := by simp [okTo]
theorem okTo_made {C : KCon} {fs : List KFile} : boolC (okTo C fs 0) = (madeCells (Value.cells (.bool false)) (fs.length * 1)).toList := by
 apply List.ext_getElem?
 intro j
 simp [boolC, okTo, madeCells, Value.cells]
 rcases Nat.lt_or_ge j fs.length with h | h
 · simp [h, Nat.mod_one]
 · simp [h]
def fileRow (l : List (KFile × FV)) : List Value := l.flatMap (fun p => FV.cells p.2 p.1)
theorem FilesAt.row {w : World} {t : TypeId} {b c : Nat} {l : List (KFile × FV)} (h : Own w t b (fileRow l)) (hc : l.length ≤ c) (hm : c ≤ maxLen) (hf : ∀ p ∈ l, FileAt w p.2 p.1) : FilesAt w ⟨some ⟨b, 0, none⟩, c⟩ (l.map Prod.fst) := by
 have hz : (l.map Prod.fst).zip (l.map Prod.snd) = l := by rw [← List.unzip_fst, ← List.unzip_snd]; exact List.zip_unzip l
 refine ⟨l.map Prod.snd, by simp, ?_, fun i f t hi ht => ?_⟩
 · rw [hz, List.length_map]
   refine h.toAt (length_flat (fun p : KFile × FV => FV.cells p.2 p.1) 3 (fun _ => rfl) l) (fun u hu => ?_) hc hm
   obtain ⟨p, _, hp⟩ := List.mem_flatMap.1 hu
   simp only [FV.cells, List.mem_cons, List.not_mem_nil, or_false] at hp
   rcases hp with rfl | rfl | rfl <;> rfl
 · have h1 : (l.map Prod.fst).zip (l.map Prod.snd) = l := hz
   have h2 : ((l.map Prod.fst).zip (l.map Prod.snd))[i]? = some (f, t) := by rw [List.getElem?_zip_eq_some]; exact ⟨hi, ht⟩
   rw [h1] at h2
   exact hf _ (List.mem_of_getElem? h2)
theorem le_sum_mem : ∀ {l : List Nat} {a : Nat}, a ∈ l → a ≤ l.sum
 | b :: l, a, h => by
  rw [List.sum_cons]
  rcases List.mem_cons.1 h with rfl | h
  · omega
  · have := le_sum_mem h
    omega
theorem two_len {α : Type} {g : α → Nat} : ∀ {l : List α} {i j : Nat} {a b : α}, l[i]? = some a → l[j]? = some b → i < j → g a + g b ≤ (l.map g).sum
 | [], i, j, a, b, h, _, _ => by simp at h
 | x :: l, 0, j + 1, a, b, h, h2, _ => by
  simp at h h2
  subst h
  have := le_sum_mem (List.mem_map_of_mem (f := g) (List.mem_of_getElem? h2))
  simp only [List.map_cons, List.sum_cons]
  omega
 | x :: l, i + 1, j + 1, a, b, h, h2, hlt => by
  simp at h h2
  have := two_len (g := g) h h2 (by omega)
  simp only [List.map_cons, List.sum_cons]
  omega
def listSpec (W0 : World) (l : List KFile) : MSpec :=
 ⟨fun v => ∃ b, W0.heap.size ≤ b ∧ v = .slice (some ⟨b, 0, none⟩) l.length l.length, fun v z => ∀ b, v = .slice (some ⟨b, 0, none⟩) l.length l.length → FilesAt z ⟨some ⟨b, 0, none⟩, l.length⟩ l⟩
theorem listSpec_keeps (W0 : World) (l : List KFile) : (listSpec W0 l).Keeps := fun _ _ _ h hb b hv => (h b hv).below hb
def joinSpec (ho : Int) (L : List KFact) (O : List KBef) : MSpec :=
 ⟨fun v => ∃ (ho' : Int) (n : Nat) (er : Int) (A : Option Addr) (c n' : Nat) (A' : Option Addr) (c' : Nat), v = .tuple #[.agg #[.int .i64 ho', .slice A n c, .slice A' n' c'], .int .i64 er],
  fun v z => ∃ (ho' : Int) (F' : List KFact) (O' : List KBef) (er : Int) (A : Option Addr) (c : Nat) (A' : Option Addr) (c' : Nat), v = .tuple #[.agg #[.int .i64 ho', .slice A F'.length c, .slice A' O'.length c'], .int .i64 er] ∧ FileAt z ⟨⟨A, c⟩, ⟨A', c'⟩⟩ ⟨ho', F', O'⟩ ∧ JoinIs ho L O ho' F' O' er⟩
theorem joinSpec_keeps (ho : Int) (L : List KFact) (O : List KBef) : (joinSpec ho L O).Keeps := fun _ _ _ h hb => by
 obtain ⟨ho', F', O', er, A, c, A', c', h1, h2, h3⟩ := h
 exact ⟨ho', F', O', er, A, c, A', c', h1, h2.below hb, h3⟩
def boxSpec (W0 : World) : MSpec :=
 ⟨fun v => ∃ b, W0.heap.size ≤ b ∧ v = .pointer (some ⟨b, 0, none⟩), fun v z => ∀ b, v = .pointer (some ⟨b, 0, none⟩) → Own z 34 b [.int .i64 0, .slice none 0 0, .slice none 0 0]⟩
theorem boxSpec_keeps (W0 : World) : (boxSpec W0).Keeps := fun _ _ _ h hb b hv => (h b hv).below hb
theorem joined_makes (l : List KFile) (f0 : KFile) (z : World) (b : Nat) (hF : FilesAt z ⟨some ⟨b, 0, none⟩, l.length⟩ l) (h0 : l[0]? = some f0) (hn : l.length ≤ 100) (hR : ∀ x ∈ factsOf l, In64 x.ref) (hL : (factsOf l).length ≤ 4000) (hO : (ordersOf l).length ≤ 4000) (hK : KnownL (factsOf l) (ordersOf l)) :
 Calls Tryz.prog 27 #[.slice (some ⟨b, 0, none⟩) l.length l.length] z (fun e w'' => ∃ v, e = .returned v ∧ (joinSpec f0.house (factsOf l) (ordersOf l)).V v ∧ (joinSpec f0.house (factsOf l) (ordersOf l)).S v w'' ∧ Below z.heap.size z w'') := by
 refine (joined_any l ⟨some ⟨b, 0, none⟩, l.length⟩ f0 z hF h0 hn hR hL hO hK).mono ?_
 rintro e w' ⟨ho', F', O', er, A, c, A', c', rfl, hfa, _, hb, hj⟩
 exact ⟨_, rfl, ⟨ho', F'.length, er, A, c, O'.length, A', c', rfl⟩, ⟨ho', F', O', er, A, c, A', c', rfl, hfa, hj⟩, hb⟩
attribute [local go_sem] stillB stillUpon makesUpon
set_option maxRecDepth 100000 in
set_option maxHeartbeats 4000000 in
theorem conflict_any (v : CV) (C : KCon) (sv : SV) (fs : List KFile) (w : World) (hC : ConAt w v C) (hF : FilesAt w sv fs) (hn : fs.length ≤ 100) (hR : ∀ x ∈ factsOf fs, In64 x.ref) (hL : (factsOf fs).length ≤ 4000) (hO : (ordersOf fs).length ≤ 4000) :
 Calls Tryz.prog 21 #[v.val C, .slice sv.A fs.length sv.c] w (ConflictPost C fs w) := by
 obtain ⟨⟨vhA, vhc⟩, ⟨vuA, vuc⟩, ⟨vaA, vac⟩, ⟨vkA, vkc⟩, ⟨voA, voc⟩⟩ := v
 obtain ⟨sA, sc⟩ := sv
 have HC := Lib.hid hC; clear hC
 have HF := Lib.hid hF; clear hF
 have HR := Lib.hid hR; clear hR
 have HL := Lib.hid hL; clear hL
 have HO := Lib.hid hO; clear hO
 obtain ⟨ip, hip, hpz, hps, hpb⟩ := info_parts' (P := Tryz.prog) (t := 4) (z := some (.bool false)) (s := 1) (b := 1) (by kernel_rfl)
 have hmk := fun w : World => run_makeSlice (P := Tryz.prog) (w := w) 81 4 ip _ Tryz.underlying81 hip hpz .i64 .i64 (fs.length : Int) (fs.length : Int) (by omega) (by omega) (by rw [hps]; simp; omega) (by rw [hpb]; omega) (by omega)
 simp only [Int.toNat_natCast, hps] at hmk
 simp only [CV.val, CV.cells]
 go_enter Tryz.func21, Tryz.ntmps21
 go_upto_region 1 with (fail)
 generalize hW0 : World.alloc _ _ = W0
 obtain ⟨HB, hh0⟩ := bx1 hW0
 obtain ⟨k0_0, k0_1, k0_2, k0_3, k0_4, k0_5, k0_6⟩ := kc7 hh0
 have hs0 : w.heap.size < W0.heap.size := lt_of_heap hh0
 clear hh0 hW0
 have hx := hmk W0
 clear hmk
 go_upto_region 2 with (fail)
 obtain ⟨vb, hvb⟩ : ∃ vb, vb = W0.heap.size := ⟨_, rfl⟩
 rw [← hvb]
 generalize hWb : World.alloc _ _ = Wb
 have hbb : Below W0.heap.size W0 Wb := by rw [← hWb]; exact Below.alloc' (Below.refl _ _) _
 have HOW : Hid (Own Wb 4 vb (boolC (okTo C fs 0))) := by
  refine ⟨[], ?_⟩
  rw [List.append_nil, okTo_made, Array.toArray_toList, ← hWb, hvb, Nat.mul_one]
  exact heap_alloc_new W0 _
 have hvw : w.heap.size < vb := by omega
 have HBZ : Hid (∀ z : Bl W0, Below w.heap.size w z.val) := fun z => Below.step HB.out z.prop
 have HOB : Hid (Own (Bl.val (⟨Wb, hbb⟩ : Bl W0)) 4 vb (boolC (okTo C fs 0))) := HOW
 change Code.wp _ _ _ _ (Bl.val (⟨Wb, hbb⟩ : Bl W0))
 generalize (⟨Wb, hbb⟩ : Bl W0) = s0 at HOB ⊢
 clear HOW hbb hWb hx hip hpz hps hpb ip
 have HVB := Lib.hid hvb; clear hvb
 go_wp2
 go_loopg [19] fs.length (fun gk v19 wr => ∃ (k : Nat) (z : Bl W0), gk = fs.length - k ∧ k ≤ fs.length ∧ v19 = .int .i64 k ∧ wr = z.val ∧ Hid (Own z.val 4 vb (boolC (okTo C fs k))))
 case atStart => exact ⟨0, s0, rfl, Nat.zero_le _, rfl, rfl, HOB⟩
 case round =>
  obtain ⟨k, z, hgk, hk, rfl, rfl, HP⟩ := hrel
  clear HOB
  have HGK := Lib.hid hgk; clear hgk
  by_cases hlt : k < fs.length
  · obtain ⟨fb, fo, hA0, hfb, hfile⟩ := HF.out.form (by omega)
    simp only at hA0
    subst hA0
    obtain ⟨⟨ho, F, O⟩, hx⟩ : ∃ x, fs[k]? = some x := ⟨fs[k], List.getElem?_eq_getElem hlt⟩
    obtain ⟨⟨⟨gA, gc⟩, ⟨qA, qc⟩⟩, hfa, hcell⟩ := hfile k _ hx
    have e0 : z.val.cell? ⟨fb, fo + k * 3, none⟩ = some (.int .i64 ho) := hcell z.val (HBZ.out z) 0 (by omega)
    have e1 : z.val.cell? ⟨fb, fo + k * 3 + 1, none⟩ = some (.slice gA F.length gc) := hcell z.val (HBZ.out z) 1 (by omega)
    have e2 : z.val.cell? ⟨fb, fo + k * 3 + 2, none⟩ = some (.slice qA O.length qc) := hcell z.val (HBZ.out z) 2 (by omega)
    have HFA := Lib.hid hfa; clear hfa
    have HX := Lib.hid hx; clear hx hcell hfile
    have kF : (k : Int) < (fs.length : Int) := by omega
    go_upto_region 5 with (fail)
    generalize hWa : World.alloc _ _ = Wa
    obtain ⟨hba, hxa⟩ := bx1' hWa
    clear hWa
    have HPa : Hid (Below W0.heap.size W0 Wa) := Below.step z.prop hba
    have HPW := Lib.hid (HP.out.below hba)
    obtain ⟨d0, d1, d2⟩ := kc3 hxa
    have c0 := kup HPa.out k0_0
    have c1 := kup HPa.out k0_1
    have c2 := kup HPa.out k0_2
    have c3 := kup HPa.out k0_3
    have c4 := kup HPa.out k0_4
    have c5 := kup HPa.out k0_5
    have c6 := kup HPa.out k0_6
    have HBA : Hid (∀ s : Bl Wa, Below W0.heap.size W0 s.val) := fun s => Below.step HPa.out s.prop
    have HVF := Lib.hid (fun s : Bl Wa => fileValid_any (⟨⟨vhA, vhc⟩, ⟨vuA, vuc⟩, ⟨vaA, vac⟩, ⟨vkA, vkc⟩, ⟨voA, voc⟩⟩ : CV) C ⟨⟨gA, gc⟩, ⟨qA, qc⟩⟩ ⟨ho, F, O⟩ s.val (HC.out.below (Below.step HB.out (HBA.out s))) (HFA.out.below (Below.step HB.out (HBA.out s))))
    simp only [CV.val, CV.cells, FV.val, FV.cells] at HVF
    have hOK : (okTo C fs k)[k]? = some false := by unfold okTo; rw [List.getElem?_append_right (by simp; omega), List.getElem?_replicate, if_pos (by simp; omega)]
    have hcl : ∀ s : Bl Wa, s.val.cell? ⟨vb, k, none⟩ = some (.bool false) := fun s => (HPW.out.below s.prop).cell (boolC_get hOK)
    have hfr : ∀ s : Bl Wa, s.val.frozen? ⟨vb, k, none⟩ = false := fun s => (HPW.out.below s.prop).frozen k
    clear e0 e1 e2 hxa hba k0_0 k0_1 k0_2 k0_3 k0_4 k0_5 k0_6
    change Code.wp _ _ _ _ (Bl.val (⟨Wa, Below.refl _ _⟩ : Bl Wa))
    generalize (⟨Wa, Below.refl _ _⟩ : Bl Wa) = sa
    generalize hE : okFile C ⟨ho, F, O⟩ = E at HVF
    have HE := Lib.hid hE; clear hE
    go_wp2_with (go_at_call 12; refine (HVF.out _).mono ?_; rintro e z2 ⟨rfl, hz⟩; obtain ⟨z2, rfl⟩ := Bl.on hz; clear hz)
    obtain ⟨s2, hs2⟩ : ∃ s2 : Bl W0, z2.val = s2.val := ⟨⟨z2.val, HBA.out z2⟩, rfl⟩
    have hO2 : Own (s2.val.setCell ⟨vb, k, none⟩ (.bool E)) 4 vb (boolC (okTo C fs (k + 1))) := by
     have h := (HPW.out.below z2.prop).set (i := k) (by rw [boolC_len, okTo_len hk]; exact hlt) (.bool E)
     rw [boolC_set, ← HE.out, okTo_succ HX.out, hs2] at h
     rw [← HE.out]
     exact h
    have HO2 := Lib.hid hO2; clear hO2
    have HS2 := Lib.hid hs2; clear hs2
    go_wp2
    go_roundg (fs.length - (k + 1))
    case measure => rw [HGK.out]; omega
    case rel =>
     refine ⟨k + 1, ⟨s2.val.setCell ⟨vb, k, none⟩ (.bool E), ?_⟩, rfl, by omega, by go_num, by rw [HS2.out], HO2.out⟩
     exact s2.prop.trans (((Upd.refl (fun i => i = vb) s2.val).setCell (p := ⟨vb, k, none⟩) (.inl rfl) (.bool E)).below s2.prop.size (fun i hi => by rw [hi, HVB.out]; exact Nat.le_refl _))
  · obtain rfl : k = fs.length := by omega
    rw [okTo_all] at HP
    clear hlt HGK hk
    have HR2 := Lib.hid HP.out
    clear HP
    go_wp2
    go_loopg [33] fs.length (fun gk v33 wr => ∃ (m : Nat) (z : Bl W0), gk = fs.length - m ∧ m ≤ fs.length ∧ v33 = .int .i64 m ∧ wr = z.val ∧ Hid (Own z.val 4 vb (boolC (fs.map (okFile C)))) ∧ Hid (NoneTo C fs m (m + 1)))
    case atStart => exact ⟨0, z, rfl, Nat.zero_le _, rfl, rfl, HR2, (NoneTo.zero C fs).from⟩
    case round =>
     obtain ⟨m, z, hgk, hm, rfl, rfl, HP, HNO⟩ := hrel
     have HGK := Lib.hid hgk; clear hgk HR2
     by_cases hlt : m < fs.length
     · have m0 : (m : Int) < (fs.length : Int) := by omega
       obtain ⟨⟨ho, F, O⟩, hx⟩ : ∃ x, fs[m]? = some x := ⟨fs[m], List.getElem?_eq_getElem hlt⟩
       have HX := Lib.hid hx; clear hx
       go_wp2
       go_loopg [11] (fs.length - (m + 1)) (fun gk v11 wr => ∃ (j : Nat) (z : Bl W0), gk = fs.length - j ∧ m + 1 ≤ j ∧ j ≤ fs.length ∧ v11 = .int .i64 j ∧ wr = z.val ∧ Hid (Own z.val 4 vb (boolC (fs.map (okFile C)))) ∧ Hid (NoneTo C fs m j))
       case atStart => exact ⟨m + 1, z, rfl, Nat.le_refl _, by omega, by go_num, rfl, HP, HNO⟩
       case round =>
        obtain ⟨j, z, hgk2, hmj, hj, rfl, rfl, HP, HNO⟩ := hrel
        have HGJ := Lib.hid hgk2; clear hgk2
        by_cases hlj : j < fs.length
        · have j0 : (j : Int) < (fs.length : Int) := by omega
          obtain ⟨⟨ho', F', O'⟩, hx'⟩ : ∃ x, fs[j]? = some x := ⟨fs[j], List.getElem?_eq_getElem hlj⟩
          have HX' := Lib.hid hx'; clear hx'
          have v0 : z.val.cell? ⟨vb, m, none⟩ = some (.bool (okFile C ⟨ho, F, O⟩)) := HP.out.cell (boolC_get (by rw [List.getElem?_map, HX.out]; rfl))
          have v1 : z.val.cell? ⟨vb, j, none⟩ = some (.bool (okFile C ⟨ho', F', O'⟩)) := HP.out.cell (boolC_get (by rw [List.getElem?_map, HX'.out]; rfl))
          generalize hE : okFile C ⟨ho, F, O⟩ = E at v0
          have HE := Lib.hid hE; clear hE
          generalize hE' : okFile C ⟨ho', F', O'⟩ = E' at v1
          have HE' := Lib.hid hE'; clear hE'
          cases E with
          | false =>
           go_wp2
           go_roundg (fs.length - (m + 1))
           case measure => rw [HGK.out]; omega
           case rel => exact ⟨m + 1, z, rfl, by omega, by go_num, rfl, HP, HNO.out.bad HX.out HE.out⟩
          | true =>
           cases E' with
           | false =>
            have HNC : Hid (NoneTo C fs m (j + 1)) := HNO.out.step HX.out HX'.out (fun h => by have h2 := h.2.1; rw [HE'.out] at h2; cases h2)
            go_wp2
            go_roundg (fs.length - (j + 1))
            case measure => rw [HGJ.out]; omega
            case rel => exact ⟨j + 1, z, rfl, by omega, by omega, by go_num, rfl, HP, HNC⟩
           | true =>
            go_upto_region 14 with (fail)
            obtain ⟨fb, fo, hA0, hfb, hfile⟩ := HF.out.form (by omega)
            simp only at hA0
            subst hA0
            have hwz := HBZ.out z
            obtain ⟨⟨⟨gA, gc⟩, ⟨qA, qc⟩⟩, hfa, hcell⟩ := hfile m _ HX.out
            obtain ⟨⟨⟨gA', gc'⟩, ⟨qA', qc'⟩⟩, hfa', hcell'⟩ := hfile j _ HX'.out
            have HFA := Lib.hid (hfa.below hwz); clear hfa
            have HFA' := Lib.hid (hfa'.below hwz); clear hfa'
            have HWZ := Lib.hid hwz; clear hwz
            obtain ⟨Z, HZ⟩ : ∃ Z, Z = z.val := ⟨_, rfl⟩
            have HPZ : Hid (Own Z 4 vb (boolC (fs.map (okFile C)))) := by show Own _ _ _ _; rw [HZ]; exact HP.out
            have HZ0 : Hid (Below W0.heap.size W0 Z) := by show Below _ _ _; rw [HZ]; exact z.prop
            rw [← HZ] at HFA HFA' HWZ ⊢
            have HZZ := Lib.hid HZ; clear HZ HP
            have e0 : ∀ y : Bl Z, y.val.cell? ⟨fb, fo + m * 3, none⟩ = some (.int .i64 ho) := fun y => hcell y.val (Below.step HWZ.out y.prop) 0 (by omega)
            have e1 : ∀ y : Bl Z, y.val.cell? ⟨fb, fo + m * 3 + 1, none⟩ = some (.slice gA F.length gc) := fun y => hcell y.val (Below.step HWZ.out y.prop) 1 (by omega)
            have e2 : ∀ y : Bl Z, y.val.cell? ⟨fb, fo + m * 3 + 2, none⟩ = some (.slice qA O.length qc) := fun y => hcell y.val (Below.step HWZ.out y.prop) 2 (by omega)
            have g0 : ∀ y : Bl Z, y.val.cell? ⟨fb, fo + j * 3, none⟩ = some (.int .i64 ho') := fun y => hcell' y.val (Below.step HWZ.out y.prop) 0 (by omega)
            have g1 : ∀ y : Bl Z, y.val.cell? ⟨fb, fo + j * 3 + 1, none⟩ = some (.slice gA' F'.length gc') := fun y => hcell' y.val (Below.step HWZ.out y.prop) 1 (by omega)
            have g2 : ∀ y : Bl Z, y.val.cell? ⟨fb, fo + j * 3 + 2, none⟩ = some (.slice qA' O'.length qc') := fun y => hcell' y.val (Below.step HWZ.out y.prop) 2 (by omega)
            clear hcell hcell' hfile v0 v1
            have hsub : ∀ f ∈ [(⟨ho, F, O⟩ : KFile), ⟨ho', F', O'⟩], f ∈ fs := fun f hf => by
             simp only [List.mem_cons, List.not_mem_nil, or_false] at hf
             rcases hf with rfl | rfl
             · exact List.mem_of_getElem? HX.out
             · exact List.mem_of_getElem? HX'.out
            have HMR : Hid (∀ x ∈ factsOf [(⟨ho, F, O⟩ : KFile), ⟨ho', F', O'⟩], In64 x.ref) := fun x hx => by
             obtain ⟨f, hf, hxf⟩ := List.mem_flatMap.1 hx
             exact HR.out x (List.mem_flatMap.2 ⟨f, hsub f hf, hxf⟩)
            have hle := two_len (g := fun f => f.facts.length) HX.out HX'.out (by omega)
            have hle2 := two_len (g := fun f => f.orders.length) HX.out HX'.out (by omega)
            have HML : Hid ((factsOf [(⟨ho, F, O⟩ : KFile), ⟨ho', F', O'⟩]).length ≤ 4000) := by
             have h := HL.out
             rw [factsOf, List.length_flatMap] at h
             show _ ≤ _
             simp only [factsOf, List.flatMap_cons, List.flatMap_nil, List.append_nil, List.length_append]
             simp only at hle
             omega
            have HMO : Hid ((ordersOf [(⟨ho, F, O⟩ : KFile), ⟨ho', F', O'⟩]).length ≤ 4000) := by
             have h := HO.out
             rw [ordersOf, List.length_flatMap] at h
             show _ ≤ _
             simp only [ordersOf, List.flatMap_cons, List.flatMap_nil, List.append_nil, List.length_append]
             simp only at hle2
             omega
            have HMK : Hid (KnownL (factsOf [(⟨ho, F, O⟩ : KFile), ⟨ho', F', O'⟩]) (ordersOf [(⟨ho, F, O⟩ : KFile), ⟨ho', F', O'⟩])) := okFile_known (C := C) (fun f hf => by
             simp only [List.mem_cons, List.not_mem_nil, or_false] at hf
             rcases hf with rfl | rfl
             · exact HE.out
             · exact HE'.out)
            clear hsub hle hle2
            refine wp_region_deps (s := (⟨Z, Below.refl _ _⟩ : Bl Z)) 14 (fun i => match i with
             | 8 => some (listSpec Z [⟨ho, F, O⟩, ⟨ho', F', O'⟩])
             | 9 => some (joinSpec ho (F ++ F') (O ++ O'))
             | 13 => some (boxSpec Z)
             | _ => none) (fun i => match i with
             | 9 => [8]
             | _ => []) [8] [12] (by simp) (by kernel_rfl) (by kernel_rfl) (by simp) ?panics (by kernel_rfl) ?bnd ?keeps ?_
            case panics =>
             intro e _ o v c a w _ h
             revert h
             cases o.dst <;> exact id
            case bnd =>
             intro p hp o t ho ht
             simp only [List.mem_singleton] at hp
             subst hp
             simp only [List.getElem?_toArray, List.getElem?_cons_succ, List.getElem?_cons_zero, Option.some.injEq] at ho
             subst ho
             simp only [Option.some.injEq] at ht
             subst ht
             simp
            case keeps =>
             intro i sp h
             split at h
             · injection h with h; subst h; exact listSpec_keeps _ _
             · injection h with h; subst h; exact joinSpec_keeps _ _ _
             · injection h with h; subst h; exact boxSpec_keeps _
             · cases h
            simp only [List.take_succ_cons, List.take_zero, List.drop_succ_cons, List.drop_zero]
            repeat (refine wpE_still rfl (fun K hK => ?_); go_simp; refine hK _ ?_; clear hK K)
            refine wpE_make _ rfl rfl ?_ (fun y hpre => ?_) ?_
            · exact ⟨_, Z.heap.size, Nat.le_refl _, rfl⟩
            · go_simp
              refine ⟨⟨_, y.prop.size, rfl⟩, fun b hb => ?_, Below.alloc' (Below.refl _ _) _⟩
              simp only [List.length_cons, List.length_nil, Value.slice.injEq, Option.some.injEq, Addr.mk.injEq, and_true] at hb
              subst hb
              have hbe : Below y.val.heap.size y.val (y.val.alloc (.cells #[.int .i64 ho, .slice gA F.length gc, .slice qA O.length qc, .int .i64 ho', .slice gA' F'.length gc', .slice qA' O'.length qc'] 34)) := Below.alloc' (Below.refl _ _) _
              have hbz := Below.step y.prop hbe
              refine FilesAt.row (t := 34) (l := [(⟨ho, F, O⟩, ⟨⟨gA, gc⟩, ⟨qA, qc⟩⟩), (⟨ho', F', O'⟩, ⟨⟨gA', gc'⟩, ⟨qA', qc'⟩⟩)]) (Own.new _ _ _) (Nat.le_refl _) (by simp [maxLen]) (fun p hp => ?_)
              simp only [List.mem_cons, List.not_mem_nil, or_false] at hp
              rcases hp with rfl | rfl
              · exact HFA.out.below hbz
              · exact HFA'.out.below hbz
            rintro _ ⟨lb, hlb, rfl⟩
            simp only [List.length_cons, List.length_nil]
            refine wpE_make _ rfl rfl ?_ (fun y hpre => ?_) ?_
            · exact ⟨_, 0, 0, 0, none, 0, 0, none, 0, rfl⟩
            · go_simp
              have hp := hpre 8 (by simp) (listSpec Z [⟨ho, F, O⟩, ⟨ho', F', O'⟩]) rfl _ _ rfl rfl lb rfl
              have h := joined_makes [⟨ho, F, O⟩, ⟨ho', F', O'⟩] _ y.val lb hp rfl (by simp) HMR.out HML.out HMO.out HMK.out
              simp only [factsOf, ordersOf, List.flatMap_cons, List.flatMap_nil, List.append_nil, List.length_cons, List.length_nil] at h
              exact h
            rintro _ ⟨rh, rn, er, rA, rc, rn', rA', rc', rfl⟩
            repeat (refine wpE_still rfl (fun K hK => ?_); go_simp; refine hK _ ?_; clear hK K)
            refine wpE_make _ rfl rfl ?_ (fun y hpre => ?_) ?_
            · exact ⟨_, Z.heap.size, Nat.le_refl _, rfl⟩
            · go_simp
              refine ⟨⟨_, y.prop.size, rfl⟩, fun b hb => ?_, Below.alloc' (Below.refl _ _) _⟩
              simp only [Value.pointer.injEq, Option.some.injEq, Addr.mk.injEq, and_true] at hb
              subst hb
              exact Own.new _ _ _
            rintro _ ⟨bx, hbx, rfl⟩
            repeat (refine wpE_still rfl (fun K hK => ?_); go_simp; refine hK _ ?_; clear hK K)
            refine wpE_nil ?_
            rintro y ⟨⟨⟨_, hA⟩, hB⟩, hD⟩
            have hown := hD bx rfl
            obtain ⟨ho3, F3, O3, er3, A3, c3, A3', c3', he3, _, hj3⟩ := hB
            simp only [Value.tuple.injEq, Value.agg.injEq, List.cons.injEq, Array.mk.injEq, Value.int.injEq, Value.slice.injEq, true_and, and_true] at he3
            obtain ⟨⟨rfl, ⟨rfl, rfl, rfl⟩, rfl, rfl, rfl⟩, rfl⟩ := he3
            have HJ3 := Lib.hid hj3; clear hj3
            clear hA hD hlb
            have o0 := hown.cell (i := 0) rfl
            have o1 := hown.cell (i := 1) rfl
            have o2 := hown.cell (i := 2) rfl
            have f0 := hown.frozen 0
            have f1 := hown.frozen 1
            have f2 := hown.frozen 2
            have HOWN := Lib.hid hown; clear hown
            gi_wp2
            obtain ⟨Wf, HWf⟩ : ∃ Wf, Hid (Wf = ((y.val.setCell ⟨bx, 0, none⟩ (.int .i64 rh)).setCell ⟨bx, 1, none⟩ (.slice rA F3.length rc)).setCell ⟨bx, 2, none⟩ (.slice rA' O3.length rc')) := ⟨_, rfl⟩
            rw [← HWf.out]
            obtain ⟨_, _, _, hUf⟩ := stored3X HOWN.out HWf.out
            have hZs := HZ0.out.size
            have hBf : Below W0.heap.size W0 Wf := HZ0.out.trans ((y.prop.trans (hUf.below y.prop.size (fun i hi => by omega))).mono hZs)
            have HOf : Hid (Own (Bl.val (⟨Wf, hBf⟩ : Bl W0)) 4 vb (boolC (fs.map (okFile C)))) := (HPZ.out.below y.prop).keep hUf (by have := HPZ.out.lt; omega)
            change Code.wp _ _ _ _ (Bl.val (⟨Wf, hBf⟩ : Bl W0))
            generalize (⟨Wf, hBf⟩ : Bl W0) = sf at HOf ⊢
            clear hUf hBf HWf HOWN o0 o1 o2 f0 f1 f2 HPZ HZ0 HZZ HWZ HFA HFA'
            rcases HJ3.out with ⟨rfl, _, hfine⟩ | ⟨rfl, _, _, _, hev⟩
            · have HNC : Hid (NoneTo C fs m (j + 1)) := HNO.out.step HX.out HX'.out (fun h => hfine.notEvid (by have h2 := HMK.out; simpa only [factsOf, ordersOf, List.flatMap_cons, List.flatMap_nil, List.append_nil] using h2) h.2.2)
              clear hfine HJ3
              go_wp2
              go_roundg (fs.length - (j + 1))
              case measure => rw [HGJ.out]; omega
              case rel => exact ⟨j + 1, sf, rfl, by omega, by omega, by go_num, rfl, HOf, HNC⟩
            · have HCL : Hid (Clash C ⟨ho, F, O⟩ ⟨ho', F', O'⟩) := ⟨HE.out, HE'.out, hev⟩
              clear hev HJ3
              go_wp2
              refine bodyPost_ret (v := .tuple #[.int .i64 m, .int .i64 j, .bool true]) (by simp [results, Tryz.results21, go_sem]) rfl ⟨_, _, _, rfl, HBZ.out sf, .inr ⟨rfl, m, j, _, _, rfl, rfl, by omega, HX.out, HX'.out, HCL.out, HNO.out⟩⟩
        · obtain rfl : j = fs.length := by omega
          clear HGJ hlj
          go_wp2
          go_roundg (fs.length - (m + 1))
          case measure => rw [HGK.out]; omega
          case rel => exact ⟨m + 1, z, rfl, by omega, by go_num, rfl, HP, HNO.out.next (Nat.le_refl _)⟩
     · obtain rfl : m = fs.length := by omega
       clear HGK hlt
       go_wp2
       refine bodyPost_ret (v := .tuple #[.int .i64 0, .int .i64 0, .bool false]) (by simp [results, Tryz.results21, go_sem]) rfl ⟨_, _, _, rfl, HBZ.out z, .inl ⟨rfl, rfl, rfl, fun m' n' f' g' h1 h2 h3 h4 => HNO.out m' n' f' g' h1 (by omega) h3 h4⟩⟩
end Go.Proofs.YtahhdjeclbagnaaGreatDoor
