/-
  CvC
-/
import Derived.Test.YtahhdjeclbagnaaGreatDoorQ44
import Derived.Test.YtahhdjeclbagnaaGreatDoorQ19
namespace Go.Proofs.YtahhdjeclbagnaaGreatDoor
open Go.RowKit Go.Shelf
def joinSpecC (C : KCon) (l : List KFile) : MSpec :=
 ⟨fun v => ∃ (ho' : Int) (n : Nat) (er : Int) (A : Option Addr) (c n' : Nat) (A' : Option Addr) (c' : Nat), v = .tuple #[.agg #[.int .i64 ho', .slice A n c, .slice A' n' c'], .int .i64 er],
  fun v z => ∃ (ho' : Int) (F' : List KFact) (O' : List KBef) (er : Int) (A : Option Addr) (c : Nat) (A' : Option Addr) (c' : Nat), v = .tuple #[.agg #[.int .i64 ho', .slice A F'.length c, .slice A' O'.length c'], .int .i64 er] ∧ FileAt z ⟨⟨A, c⟩, ⟨A', c'⟩⟩ ⟨ho', F', O'⟩ ∧ JoinRes C l ho' F' O' er⟩
theorem joinSpecC_keeps (C : KCon) (l : List KFile) : (joinSpecC C l).Keeps := fun _ _ _ h hb => by
 obtain ⟨ho', F', O', er, A, c, A', c', h1, h2, h3⟩ := h
 exact ⟨ho', F', O', er, A, c, A', c', h1, h2.below hb, h3⟩
theorem join_makes (v : CV) (C : KCon) (l : List KFile) (z : World) (b c : Nat) (hC : ConAt z v C) (hF : FilesAt z ⟨some ⟨b, 0, none⟩, c⟩ l) (hn : l.length ≤ 100) (hR : ∀ x ∈ factsOf l, In64 x.ref) (hL : (factsOf l).length ≤ 4000) (hO : (ordersOf l).length ≤ 4000) :
 Calls Tryz.prog 11 #[v.val C, .slice (some ⟨b, 0, none⟩) l.length c] z (fun e w'' => ∃ v, e = .returned v ∧ (joinSpecC C l).V v ∧ (joinSpecC C l).S v w'' ∧ Below z.heap.size z w'') := by
 refine (join_any v C ⟨some ⟨b, 0, none⟩, c⟩ l z hC hF hn hR hL hO).mono ?_
 rintro e w' ⟨ho', F', O', er, A, c, A', c', rfl, hfa, _, hb, hj⟩
 exact ⟨_, rfl, ⟨ho', F'.length, er, A, c, O'.length, A', c', rfl⟩, ⟨ho', F', O', er, A, c, A', c', rfl, hfa, hj⟩, hb⟩
theorem pair_facts (f g : KFile) : factsOf [f, g] = f.facts ++ g.facts ∧ ordersOf [f, g] = f.orders ++ g.orders := ⟨by simp [factsOf], by simp [ordersOf]⟩
theorem pair_known {C : KCon} {f g : KFile} (h1 : okFile C f = true) (h2 : okFile C g = true) : KnownL (f.facts ++ g.facts) (f.orders ++ g.orders) := by
 have h := okFile_known (C := C) (fs := [f, g]) (fun x hx => by simp at hx; rcases hx with rfl | rfl <;> assumption)
 rw [(pair_facts f g).1, (pair_facts f g).2] at h
 exact h
theorem join_clash {C : KCon} {f g : KFile} {ho : Int} {F : List KFact} {O : List KBef} {er : Int} (h : JoinRes C [f, g] ho F O er) : er = 23 ↔ Clash C f g := by
 have ok : ∀ {x}, x ∈ [f, g] ↔ x = f ∨ x = g := by simp
 rcases h with ⟨rfl, _, _, _, hn⟩ | ⟨ha, f0, _, h⟩
 · refine ⟨(fun h => by cases h), fun h => absurd ⟨by simp, fun x hx => ?_⟩ hn⟩
   rcases ok.1 hx with rfl | rfl
   · exact h.1
   · exact h.2.1
 · have h1 := ha.2 f (by simp)
   have h2 := ha.2 g (by simp)
   rw [(pair_facts f g).1, (pair_facts f g).2] at h
   rcases h with ⟨rfl, _, hf⟩ | ⟨rfl, _, _, _, he⟩
   · exact ⟨fun h => (by cases h), fun h => absurd h.2.2 (hf.notEvid (pair_known h1 h2))⟩
   · exact ⟨fun _ => ⟨h1, h2, he⟩, fun _ => rfl⟩
theorem join_all_clash {C : KCon} {fs : List KFile} {ho : Int} {F : List KFact} {O : List KBef} {er : Int} (h : JoinRes C fs ho F O er) {m n : Nat} {f g : KFile} (hf : fs[m]? = some f) (hg : fs[n]? = some g) (hc : Clash C f g) : er ≠ 0 := by
 rintro rfl
 rcases h with ⟨h, _⟩ | ⟨ha, f0, _, ⟨_, _, hfi⟩ | ⟨h, _⟩⟩
 · cases h
 · refine hc.2.2.more hfi (fun x hx => ?_) (fun b hb => ?_) (pair_known hc.1 hc.2.1)
   · rcases List.mem_append.1 hx with h | h
     · exact List.mem_flatMap.2 ⟨f, List.mem_of_getElem? hf, h⟩
     · exact List.mem_flatMap.2 ⟨g, List.mem_of_getElem? hg, h⟩
   · rcases List.mem_append.1 hb with h | h
     · exact List.mem_flatMap.2 ⟨f, List.mem_of_getElem? hf, h⟩
     · exact List.mem_flatMap.2 ⟨g, List.mem_of_getElem? hg, h⟩
 · cases h
attribute [local go_sem] stillB stillUpon makesUpon
set_option maxRecDepth 100000 in
set_option maxHeartbeats 4000000 in
theorem conflicts_walk (v : CV) (C : KCon) (sv : SV) (fs : List KFile) (w : World) (hC : ConAt w v C) (hF : FilesAt w sv fs) (hR : ∀ f ∈ fs, ∀ x ∈ f.facts, In64 x.ref) (hT : Tab w) :
 Calls Tryz.prog 7 #[v.val C, .slice sv.A fs.length sv.c] w (RetB (.bool true) w) := by
 obtain ⟨⟨hA, hc⟩, ⟨uA, uc⟩, ⟨aA, ac⟩, ⟨kA, kc⟩, ⟨oA, oc⟩⟩ := v
 obtain ⟨sA, sc⟩ := sv
 have HC := Lib.hid hC; clear hC
 have HF := Lib.hid hF; clear hF
 have HT := Lib.hid hT; clear hT
 have HR := Lib.hid hR; clear hR
 simp only [CV.val, CV.cells]
 go_enter Tryz.func7, Tryz.ntmps7
 go_upto_region 1 with (fail)
 generalize hW0 : World.alloc _ _ = W0
 obtain ⟨HB0, h0⟩ := bx1 hW0
 have HX0 : Hid (CoAt W0 w.heap.size ⟨⟨hA, hc⟩, ⟨uA, uc⟩, ⟨aA, ac⟩, ⟨kA, kc⟩, ⟨oA, oc⟩⟩ C) := ⟨HC.out.below HB0.out, ⟨[], by rw [List.append_nil]; exact h0⟩⟩
 clear hW0 h0 HC
 have HH := Lib.hid (head_any W0 (HT.out.below HB0.out))
 go_wp2_with (go_at_call 9; refine HH.out.mono ?_; rintro _ W1 ⟨rfl, hb⟩; refine Hid.out ?_)
 refine Lib.hid ?_
 have HX1 := Lib.hid (HX0.out.below hb)
 have HB1 : Hid (Below w.heap.size w W1) := Below.step HB0.out hb
 clear hb HX0 HB0 HH HT
 obtain ⟨c0, c1, c2, c3, c4, c5, c6⟩ := HX1.out.cells
 simp only at c0 c1 c2 c3 c4 c5 c6
 have hs := lsmall_any ⟨⟨hA, hc⟩, ⟨uA, uc⟩, ⟨aA, ac⟩, ⟨kA, kc⟩, ⟨oA, oc⟩⟩ C fs ⟨sA, sc⟩ W1 HX1.out.con (HF.out.below HB1.out)
 simp only [CV.val, CV.cells] at hs
 have HS := Lib.hid hs; clear hs
 go_wp2_with (go_at_call 10; refine HS.out.mono ?_; rintro _ W2 ⟨x, rfl, hs, hb⟩; refine Hid.out ?_)
 refine Lib.hid ?_
 have HX2 := Lib.hid (HX1.out.below hb)
 have HB2 : Hid (Below w.heap.size w W2) := Below.step HB1.out hb
 have HSM := Lib.hid hs
 clear hb hs HX1 HB1 HS c0 c1 c2 c3 c4 c5 c6
 cases x with
 | false =>
  go_wp2
  go_ret
  exact ⟨rfl, HB2.out⟩
 | true =>
  have hsl := smallF_len (HSM.out (by simp))
  have hl5 := hsl.1
  have hsf := small_facts hsl.2 (by omega)
  have HFE := Lib.hid hsl.2
  have HRA : Hid (∀ x ∈ factsOf fs, In64 x.ref) := fun x hx => by
   obtain ⟨f, hf, hxf⟩ := List.mem_flatMap.1 hx
   exact HR.out f hf x hxf
  obtain ⟨c0, c1, c2, c3, c4, c5, c6⟩ := HX2.out.cells
  simp only at c0 c1 c2 c3 c4 c5 c6
  have hj := join_any ⟨⟨hA, hc⟩, ⟨uA, uc⟩, ⟨aA, ac⟩, ⟨kA, kc⟩, ⟨oA, oc⟩⟩ C ⟨sA, sc⟩ fs W2 HX2.out.con (HF.out.below HB2.out) (by omega) HRA.out hsf.1 hsf.2
  simp only [CV.val, CV.cells] at hj
  have HJ := Lib.hid hj
  have HSF := Lib.hid hsf
  clear hj hsf hsl HSM
  go_wp2_with (go_at_call 11; refine HJ.out.mono ?_; rintro _ W3 ⟨ho3, F3, O3, er3, A3, d3, B3, b3, rfl, _, _, hb, hj3⟩; refine Hid.out ?_)
  refine Lib.hid ?_
  have HX3 := Lib.hid (HX2.out.below hb)
  have HB3 : Hid (Below w.heap.size w W3) := Below.step HB2.out hb
  have HJ3 := Lib.hid hj3
  clear hb hj3 HJ HX2 HB2 c0 c1 c2 c3 c4 c5 c6
  go_upto_region 5 with (fail)
  generalize hW4 : World.alloc _ _ = W4
  obtain ⟨hb4, _⟩ := bx1' hW4
  have HX4 := Lib.hid (HX3.out.below hb4)
  have HB4 : Hid (Below w.heap.size w W4) := Below.step HB3.out hb4
  clear hW4 hb4 HX3 HB3
  obtain ⟨c0, c1, c2, c3, c4, c5, c6⟩ := HX4.out.cells
  simp only at c0 c1 c2 c3 c4 c5 c6
  have hcf := conflict_any ⟨⟨hA, hc⟩, ⟨uA, uc⟩, ⟨aA, ac⟩, ⟨kA, kc⟩, ⟨oA, oc⟩⟩ C ⟨sA, sc⟩ fs W4 HX4.out.con (HF.out.below HB4.out) (by omega) HRA.out HSF.out.1 HSF.out.2
  simp only [CV.val, CV.cells] at hcf
  have HCF := Lib.hid hcf
  clear hcf
  go_wp2_with (go_at_call 21; refine HCF.out.mono ?_; rintro _ W5 ⟨i5, j5, is5, rfl, hb, hc5⟩; refine Hid.out ?_)
  refine Lib.hid ?_
  have HX5 := Lib.hid (HX4.out.below hb)
  have HB5 : Hid (Below w.heap.size w W5) := Below.step HB4.out hb
  have HC5 := Lib.hid hc5
  clear hb hc5 HCF HX4 HB4 c0 c1 c2 c3 c4 c5 c6
  have hfl : fs.length ≤ 9223372036854775807 := by omega
  rcases HC5.out with ⟨rfl, rfl, rfl, hN⟩ | ⟨rfl, m, n, f, g, rfl, rfl, hmn, hf, hg, hcl, hN⟩
  case' inl =>
   obtain ⟨m, Hm⟩ : ∃ m : Nat, Hid (m = fs.length) := ⟨_, rfl⟩
   obtain ⟨n, Hn⟩ : ∃ n : Nat, Hid (n = fs.length) := ⟨_, rfl⟩
   have HNO : Hid (NoneTo C fs m n) := fun i j f g h1 h2 h3 h4 => hN i j f g h1 (.inl (List.getElem?_eq_some_iff.1 h3).1) h3 h4
   have HCL : Hid (∀ f g, fs[m]? = some f → fs[n]? = some g → Clash C f g) := fun f g h1 _ => by
    have := (List.getElem?_eq_some_iff.1 h1).1
    have := Hm.out
    omega
   have HMN : Hid (m ≤ fs.length ∧ (m < fs.length → m < n ∧ n < fs.length)) := ⟨by have := Hm.out; omega, fun h => by have := Hm.out; omega⟩
   clear hN HC5 HJ3
   go_upto_region 8 with (fail)
   rw [show ((fs.length : Nat) : Int) = (m : Int) by rw [Hm.out]]
   go_upto_region 11 with (fail)
   rw [show ((fs.length : Nat) : Int) = (n : Int) by rw [Hn.out]]
   clear Hm Hn
  case' inr =>
   have q1 : (er3 == 0) = false := by
    have := join_all_clash HJ3.out hf hg hcl
    simpa using this
   have q2 : ¬ ((n : Int) ≤ (m : Int)) := by omega
   have hnl := (List.getElem?_eq_some_iff.1 hg).1
   have q3 : ¬ ((fs.length : Int) ≤ (n : Int)) := by omega
   have HNO : Hid (NoneTo C fs m n) := hN
   have HCL : Hid (∀ f g, fs[m]? = some f → fs[n]? = some g → Clash C f g) := fun f' g' h1 h2 => by
    rw [hf] at h1
    rw [hg] at h2
    rw [← Option.some.inj h1, ← Option.some.inj h2]
    exact hcl
   have HMN : Hid (m ≤ fs.length ∧ (m < fs.length → m < n ∧ n < fs.length)) := ⟨by omega, fun _ => ⟨hmn, hnl⟩⟩
   clear hN HC5 HJ3 hf hg hcl hmn hnl f g
   go_upto_region 11 with (fail)
   clear q1 q2 q3
  all_goals
   go_wp2
   go_loopg [11] fs.length (fun gk v11 wr => ∃ (i : Nat) (z : Bl W5), gk = fs.length - i ∧ i ≤ fs.length ∧ i ≤ m ∧ v11 = .int .i64 i ∧ wr = z.val)
   case atStart => exact ⟨0, ⟨W5, Below.refl _ _⟩, rfl, Nat.zero_le _, Nat.zero_le _, rfl, rfl⟩
   case round =>
    obtain ⟨i, z, hgk, hi, him, rfl, rfl⟩ := hrel
    have HGK := Lib.hid hgk; clear hgk
    by_cases hlt : i < fs.length
    · have i0 : (i : Int) < (fs.length : Int) := by omega
      obtain ⟨f, hf⟩ : ∃ x, fs[i]? = some x := ⟨fs[i], List.getElem?_eq_getElem hlt⟩
      have HFI := Lib.hid hf; clear hf
      have HJ0 : Hid (i = m → i + 1 ≤ n) := fun e => by have := HMN.out.2 (by omega); omega
      go_wp2
      go_loopg [12] (fs.length - (i + 1)) (fun gk v12 wr => ∃ (j : Nat) (z : Bl W5), gk = fs.length - j ∧ i + 1 ≤ j ∧ j ≤ fs.length ∧ v12 = .int .i64 j ∧ wr = z.val ∧ Hid (i = m → j ≤ n))
      case atStart => exact ⟨i + 1, z, rfl, Nat.le_refl _, by omega, by go_num, rfl, HJ0⟩
      case round =>
       obtain ⟨j, z, hgk2, hij, hj, rfl, rfl, HJN⟩ := hrel
       have HGJ := Lib.hid hgk2; clear hgk2
       by_cases hlj : j < fs.length
       · have j0 : (j : Int) < (fs.length : Int) := by omega
         obtain ⟨g, hg⟩ : ∃ x, fs[j]? = some x := ⟨fs[j], List.getElem?_eq_getElem hlj⟩
         have HGI := Lib.hid hg; clear hg
         go_upto_region 17 with (fail)
         obtain ⟨fb, fo, hA0, hfb, hfile⟩ := HF.out.form (by omega)
         simp only at hA0
         subst hA0
         obtain ⟨⟨⟨gA, gc⟩, ⟨qA, qc⟩⟩, hfa, hcell⟩ := hfile i _ HFI.out
         obtain ⟨⟨⟨gA', gc'⟩, ⟨qA', qc'⟩⟩, hfa', hcell'⟩ := hfile j _ HGI.out
         have hwz : Below w.heap.size w z.val := Below.step HB5.out z.prop
         have HFA := Lib.hid (hfa.below hwz); clear hfa
         have HFA' := Lib.hid (hfa'.below hwz); clear hfa'
         have HXZ := Lib.hid (HX5.out.below z.prop)
         have HZP := Lib.hid z.prop
         have HWZ := Lib.hid hwz; clear hwz
         generalize z.val = Z at HFA HFA' HXZ HZP HWZ ⊢
         clear z
         have c0 : ∀ y : Bl Z, y.val.cell? ⟨w.heap.size, 0, none⟩ = some (.int .i64 C.parties) := fun y => (HXZ.out.below y.prop).cbox.cell rfl
         have c1 : ∀ y : Bl Z, y.val.cell? ⟨w.heap.size, 1, none⟩ = some (.slice hA C.holders.length hc) := fun y => (HXZ.out.below y.prop).cbox.cell rfl
         have c2 : ∀ y : Bl Z, y.val.cell? ⟨w.heap.size, 2, none⟩ = some (.slice uA C.units.length uc) := fun y => (HXZ.out.below y.prop).cbox.cell rfl
         have c3 : ∀ y : Bl Z, y.val.cell? ⟨w.heap.size, 3, none⟩ = some (.slice aA C.acts.length ac) := fun y => (HXZ.out.below y.prop).cbox.cell rfl
         have c4 : ∀ y : Bl Z, y.val.cell? ⟨w.heap.size, 4, none⟩ = some (.slice kA C.clauses.length kc) := fun y => (HXZ.out.below y.prop).cbox.cell rfl
         have c5 : ∀ y : Bl Z, y.val.cell? ⟨w.heap.size, 5, none⟩ = some (.int .i64 C.days) := fun y => (HXZ.out.below y.prop).cbox.cell rfl
         have c6 : ∀ y : Bl Z, y.val.cell? ⟨w.heap.size, 6, none⟩ = some (.slice oA C.off.length oc) := fun y => (HXZ.out.below y.prop).cbox.cell rfl
         have e0 : ∀ y : Bl Z, y.val.cell? ⟨fb, fo + i * 3, none⟩ = some (.int .i64 f.house) := fun y => hcell y.val (Below.step HWZ.out y.prop) 0 (by omega)
         have e1 : ∀ y : Bl Z, y.val.cell? ⟨fb, fo + i * 3 + 1, none⟩ = some (.slice gA f.facts.length gc) := fun y => hcell y.val (Below.step HWZ.out y.prop) 1 (by omega)
         have e2 : ∀ y : Bl Z, y.val.cell? ⟨fb, fo + i * 3 + 2, none⟩ = some (.slice qA f.orders.length qc) := fun y => hcell y.val (Below.step HWZ.out y.prop) 2 (by omega)
         have g0 : ∀ y : Bl Z, y.val.cell? ⟨fb, fo + j * 3, none⟩ = some (.int .i64 g.house) := fun y => hcell' y.val (Below.step HWZ.out y.prop) 0 (by omega)
         have g1 : ∀ y : Bl Z, y.val.cell? ⟨fb, fo + j * 3 + 1, none⟩ = some (.slice gA' g.facts.length gc') := fun y => hcell' y.val (Below.step HWZ.out y.prop) 1 (by omega)
         have g2 : ∀ y : Bl Z, y.val.cell? ⟨fb, fo + j * 3 + 2, none⟩ = some (.slice qA' g.orders.length qc') := fun y => hcell' y.val (Below.step HWZ.out y.prop) 2 (by omega)
         clear hcell hcell' hfile
         have hmf := List.mem_of_getElem? HFI.out
         have hmg := List.mem_of_getElem? HGI.out
         have HMR : Hid (∀ x ∈ factsOf [f, g], In64 x.ref) := fun x hx => by
          rw [(pair_facts f g).1] at hx
          rcases List.mem_append.1 hx with h | h
          · exact HR.out f hmf x h
          · exact HR.out g hmg x h
         have HML : Hid ((factsOf [f, g]).length ≤ 4000 ∧ (ordersOf [f, g]).length ≤ 4000) := by
          rw [(pair_facts f g).1, (pair_facts f g).2, List.length_append, List.length_append]
          have h1 := HFE.out f hmf
          have h2 := HFE.out g hmg
          exact ⟨by omega, by omega⟩
         clear hmf hmg
         refine wp_region_deps (s := (⟨Z, Below.refl _ _⟩ : Bl Z)) 15 (fun i => match i with
          | 9 => some (listSpec Z [f, g])
          | 10 => some (joinSpecC C [f, g])
          | 14 => some (boxSpec Z)
          | _ => none) (fun i => match i with
          | 10 => [9]
          | _ => []) [9] [13] (by simp) (by kernel_rfl) (by kernel_rfl) (by simp) ?panics (by kernel_rfl) ?bnd ?keeps ?_
         case panics =>
          intro e _ o v c a w _ h
          revert h
          cases o.dst <;> exact id
         case bnd =>
          intro p hp o t ho ht
          simp only [List.mem_singleton] at hp
          subst hp
          simp only [List.getElem?_toArray, List.getElem?_cons_succ, List.getElem?_cons_zero, Option.some.injEq] at ho
          subst ho
          simp only [Option.some.injEq] at ht
          subst ht
          simp
         case keeps =>
          intro i sp h
          split at h
          · injection h with h; subst h; exact listSpec_keeps _ _
          · injection h with h; subst h; exact joinSpecC_keeps _ _
          · injection h with h; subst h; exact boxSpec_keeps _
          · cases h
         simp only [List.take_succ_cons, List.take_zero, List.drop_succ_cons, List.drop_zero]
         repeat (refine wpE_still rfl (fun K hK => ?_); go_simp; refine hK _ ?_; clear hK K)
         refine wpE_make _ rfl rfl ?_ (fun y hpre => ?_) ?_
         · exact ⟨_, Z.heap.size, Nat.le_refl _, rfl⟩
         · go_simp
           refine ⟨⟨_, y.prop.size, rfl⟩, fun b hb => ?_, Below.alloc' (Below.refl _ _) _⟩
           simp only [List.length_cons, List.length_nil, Value.slice.injEq, Option.some.injEq, Addr.mk.injEq, and_true] at hb
           subst hb
           have hbe : Below y.val.heap.size y.val (y.val.alloc (.cells #[.int .i64 f.house, .slice gA f.facts.length gc, .slice qA f.orders.length qc, .int .i64 g.house, .slice gA' g.facts.length gc', .slice qA' g.orders.length qc'] 34)) := Below.alloc' (Below.refl _ _) _
           have hbz := Below.step y.prop hbe
           refine FilesAt.row (t := 34) (l := [(f, ⟨⟨gA, gc⟩, ⟨qA, qc⟩⟩), (g, ⟨⟨gA', gc'⟩, ⟨qA', qc'⟩⟩)]) (Own.new _ _ _) (Nat.le_refl _) (by simp [maxLen]) (fun p hp => ?_)
           simp only [List.mem_cons, List.not_mem_nil, or_false] at hp
           rcases hp with rfl | rfl
           · exact HFA.out.below hbz
           · exact HFA'.out.below hbz
         rintro _ ⟨lb, hlb, rfl⟩
         simp only [List.length_cons, List.length_nil]
         refine wpE_make _ rfl rfl ?_ (fun y hpre => ?_) ?_
         · exact ⟨_, 0, 0, 0, none, 0, 0, none, 0, rfl⟩
         · go_simp
           have hp := hpre 9 (by simp) (listSpec Z [f, g]) rfl _ _ rfl rfl lb rfl
           have h := join_makes ⟨⟨hA, hc⟩, ⟨uA, uc⟩, ⟨aA, ac⟩, ⟨kA, kc⟩, ⟨oA, oc⟩⟩ C [f, g] y.val lb 2 (HXZ.out.below y.prop).con hp (by simp) HMR.out HML.out.1 HML.out.2
           simp only [CV.val, CV.cells, List.length_cons, List.length_nil] at h
           exact h
         rintro _ ⟨rh, rn, er, rA, rc, rn', rA', rc', rfl⟩
         repeat (refine wpE_still rfl (fun K hK => ?_); go_simp; refine hK _ ?_; clear hK K)
         refine wpE_make _ rfl rfl ?_ (fun y hpre => ?_) ?_
         · exact ⟨_, Z.heap.size, Nat.le_refl _, rfl⟩
         · go_simp
           refine ⟨⟨_, y.prop.size, rfl⟩, fun b hb => ?_, Below.alloc' (Below.refl _ _) _⟩
           simp only [Value.pointer.injEq, Option.some.injEq, Addr.mk.injEq, and_true] at hb
           subst hb
           exact Own.new _ _ _
         rintro _ ⟨bx, hbx, rfl⟩
         repeat (refine wpE_still rfl (fun K hK => ?_); go_simp; refine hK _ ?_; clear hK K)
         refine wpE_nil ?_
         rintro y ⟨⟨⟨_, hA⟩, hB⟩, hD⟩
         have hown := hD bx rfl
         obtain ⟨ho3, F3, O3, er3, A3, c3, A3', c3', he3, _, hj3⟩ := hB
         simp only [Value.tuple.injEq, Value.agg.injEq, List.cons.injEq, Array.mk.injEq, Value.int.injEq, Value.slice.injEq, true_and, and_true] at he3
         obtain ⟨⟨rfl, ⟨rfl, rfl, rfl⟩, rfl, rfl, rfl⟩, rfl⟩ := he3
         have HJC : Hid (er = 23 ↔ Clash C f g) := join_clash hj3
         clear hA hD hlb hj3
         have o0 := hown.cell (i := 0) rfl
         have o1 := hown.cell (i := 1) rfl
         have o2 := hown.cell (i := 2) rfl
         have f0 := hown.frozen 0
         have f1 := hown.frozen 1
         have f2 := hown.frozen 2
         have HOWN := Lib.hid hown; clear hown
         gi_wp2
         obtain ⟨Wf, HWf⟩ : ∃ Wf, Hid (Wf = ((y.val.setCell ⟨bx, 0, none⟩ (.int .i64 rh)).setCell ⟨bx, 1, none⟩ (.slice rA F3.length rc)).setCell ⟨bx, 2, none⟩ (.slice rA' O3.length rc')) := ⟨_, rfl⟩
         rw [← HWf.out]
         obtain ⟨_, _, _, hUf⟩ := stored3X HOWN.out HWf.out
         have hZs := HZP.out.size
         have hBf : Below W5.heap.size W5 Wf := HZP.out.trans ((y.prop.trans (hUf.below y.prop.size (fun i hi => by omega))).mono hZs)
         change Code.wp _ _ _ _ (Bl.val (⟨Wf, hBf⟩ : Bl W5))
         generalize (⟨Wf, hBf⟩ : Bl W5) = sf
         clear hUf hBf HWf HOWN o0 o1 o2 f0 f1 f2 HZP HXZ HWZ HFA HFA' c0 c1 c2 c3 c4 c5 c6 e0 e1 e2 g0 g1 g2 hZs hbx
         by_cases hp : i = m ∧ j = n
         · have h23 : er = 23 := HJC.out.2 (HCL.out f g (by rw [← hp.1]; exact HFI.out) (by rw [← hp.2]; exact HGI.out))
           subst h23
           have q1 : ((i : Int) == (m : Int)) = true := by rw [hp.1]; exact beq_self_eq_true _
           have q2 : ((j : Int) == (n : Int)) = true := by rw [hp.2]; exact beq_self_eq_true _
           have HBE : Hid (Below w.heap.size w sf.val) := Below.step HB5.out sf.prop
           clear hp
           go_wp2
           go_ret
           exact ⟨rfl, HBE.out⟩
         · have HJ2 : Hid (i = m → j + 1 ≤ n) := fun e => by
            have h1 := HJN.out e
            have h2 : j ≠ n := fun h => hp ⟨e, h⟩
            omega
           have h23 : (er == 23) = false := by
            have h : er ≠ 23 := fun h => HNO.out i j f g (by omega) (by
             rcases Nat.lt_or_ge i m with h1 | h1
             · exact .inl h1
             · have h2 : i = m := by omega
               have h3 := HJ2.out h2
               exact .inr ⟨h2, by omega⟩) HFI.out HGI.out (HJC.out.1 h)
            simpa using h
           by_cases hm : i = m
           · have q1 : ((j : Int) == (n : Int)) = false := by
              have : j ≠ n := fun h => hp ⟨hm, h⟩
              simp only [beq_eq_false_iff_ne, ne_eq]
              omega
             have q2 : ((i : Int) == (m : Int)) = true := by rw [hm]; exact beq_self_eq_true _
             clear hp hm
             go_wp2
             go_roundg (fs.length - (j + 1))
             case measure => rw [HGJ.out]; omega
             case rel => exact ⟨j + 1, sf, rfl, by omega, by omega, by go_num, rfl, HJ2⟩
           · have q1 : ((i : Int) == (m : Int)) = false := by
              simp only [beq_eq_false_iff_ne, ne_eq]
              omega
             clear hp hm
             go_wp2
             go_roundg (fs.length - (j + 1))
             case measure => rw [HGJ.out]; omega
             case rel => exact ⟨j + 1, sf, rfl, by omega, by omega, by go_num, rfl, HJ2⟩
       · have him2 : i + 1 ≤ m := by
          rcases Nat.lt_or_ge i m with h1 | h1
          · omega
          · have h2 : i = m := by omega
            have h3 := HJN.out h2
            have h4 := HMN.out.2 (by omega)
            omega
         go_wp2
         go_roundg (fs.length - (i + 1))
         case measure => rw [HGK.out]; omega
         case rel => exact ⟨i + 1, z, rfl, by omega, him2, by go_num, rfl⟩
    · have HBE : Hid (Below w.heap.size w z.val) := Below.step HB5.out z.prop
      go_wp2
      go_ret
      exact ⟨rfl, HBE.out⟩
end Go.Proofs.YtahhdjeclbagnaaGreatDoor
