/-
  CsJ
-/
import Derived.Test.YtahhdjeclbagnaaGreatDoorQ28
namespace Go.Proofs.YtahhdjeclbagnaaGreatDoor
open Go.RowKit Go.Shelf
attribute [local go_sem] stillO stillF stillUpon turnsUpon
def factsOf (fs : List KFile) : List KFact := fs.flatMap KFile.facts
def ordersOf (fs : List KFile) : List KBef := fs.flatMap KFile.orders
def JoinIs (ho : Int) (L : List KFact) (O : List KBef) (ho' : Int) (F' : List KFact) (O' : List KBef) (er : Int) : Prop := (er = 0 ∧ ho' = ho ∧ Fine L O F' O') ∨ (er = 23 ∧ ho' = 0 ∧ F' = [] ∧ O' = [] ∧ Evid L O)
def JoinPost (ho : Int) (L : List KFact) (O : List KBef) (w : World) (e : Ending) (w' : World) : Prop :=
 ∃ (ho' : Int) (F' : List KFact) (O' : List KBef) (er : Int) (A : Option Addr) (c : Nat) (A' : Option Addr) (c' : Nat), e = .returned (.tuple #[.agg #[.int .i64 ho', .slice A F'.length c, .slice A' O'.length c'], .int .i64 er]) ∧ FileAt w' ⟨⟨A, c⟩, ⟨A', c'⟩⟩ ⟨ho', F', O'⟩ ∧ ((∀ b off, A = some ⟨b, off, none⟩ → w.heap.size ≤ b) ∧ ∀ b off, A' = some ⟨b, off, none⟩ → w.heap.size ≤ b) ∧ Below w.heap.size w w' ∧ JoinIs ho L O ho' F' O' er
structure JAt (W3 : World) (mf mo : Nat) (L : List KFact) (O : List KBef) (sm : Bool) (wr : World) : Prop where
 f : ∃ nF, nF ≤ L.length ∧ MapX In64 3 encI wr mf nF (lookV L)
 o : ∃ nO, nO ≤ O.length ∧ MapX InB 61 encB wr mo nO (hasV O)
 upd : Upd (fun k => k = mf ∨ k = mo) W3 wr
 same : sm = true ↔ SameP L
theorem JAt.on {W3 : World} {mf mo : Nat} {L : List KFact} {O : List KBef} {sm : Bool} {wr z : World} (h : JAt W3 mf mo L O sm wr) (hb : Below wr.heap.size wr z) : JAt W3 mf mo L O sm z := by
 obtain ⟨⟨nF, h1, h2⟩, ⟨nO, h3, h4⟩, h5, h6⟩ := h
 exact ⟨⟨nF, h1, h2.below h2.lt hb⟩, ⟨nO, h3, h4.below h4.lt hb⟩, updOn h5 hb, h6⟩
theorem JAt.turn {W3 : World} {mf mo : Nat} {L : List KFact} {O : List KBef} {sm : Bool} {wr z : World} {S : Nat → Prop} (h : JAt W3 mf mo L O sm wr) (hu : Upd S wr z) (h1 : ¬ S mf) (h2 : ¬ S mo) (h3 : ∀ k, k < W3.heap.size → ¬ S k) : JAt W3 mf mo L O sm z := by
 obtain ⟨⟨nF, a1, a2⟩, ⟨nO, a3, a4⟩, a5, a6⟩ := h
 exact ⟨⟨nF, a1, a2.upd hu h1⟩, ⟨nO, a3, a4.upd hu h2⟩, a5.trans hu (fun i hi hs => absurd hs (h3 i hi)), a6⟩
theorem at_nilX (w : World) (size : Nat) : At w size none 0 0 [] := ⟨⟨by simp, by simp, fun h => absurd h (Nat.lt_irrefl _)⟩, fun _ => ⟨rfl, rfl⟩, Nat.le_refl _, Nat.zero_le _⟩
theorem tight_len {F T : List KFact} {O : List KBef} (h : Tight F T O) : T.length = F.length := by have := congrArg List.length h.rest; simpa using this
set_option maxRecDepth 100000 in
set_option maxHeartbeats 8000000 in
theorem joined_any (fs : List KFile) (sv : SV) (f0 : KFile) (w : World) (hF : FilesAt w sv fs) (h0 : fs[0]? = some f0) (hn : fs.length ≤ 100) (hR : ∀ x ∈ factsOf fs, In64 x.ref) (hL : (factsOf fs).length ≤ 4000) (hO : (ordersOf fs).length ≤ 4000) (hK : KnownL (factsOf fs) (ordersOf fs)) :
 Calls Tryz.prog 27 #[.slice sv.A fs.length sv.c] w (JoinPost f0.house (factsOf fs) (ordersOf fs) w) := by
 obtain ⟨sA, sc⟩ := sv
 have hn0 : 0 < fs.length := (List.getElem?_eq_some_iff.1 h0).1
 obtain ⟨fb, fo, hA0, hfb, hfile⟩ := hF.form hn0
 simp only at hA0
 subst hA0
 have HFILE := Lib.hid hfile; clear hfile
 have HR := Lib.hid hR; clear hR
 have HK := Lib.hid hK; clear hK
 have H0 := Lib.hid h0; clear h0
 have HLL := Lib.hid hL; clear hL
 have HOL := Lib.hid hO; clear hO
 clear hF
 have hmm := @run_makeMap Tryz.prog
 go_enter Tryz.func27, Tryz.ntmps27
 go_upto_region 4 with (fail)
 obtain ⟨mf, hmf⟩ : ∃ mf, mf = w.heap.size + 1 := ⟨_, rfl⟩
 obtain ⟨mo, hmo⟩ : ∃ mo, mo = w.heap.size + 1 + 1 := ⟨_, rfl⟩
 rw [← hmo, ← hmf]
 generalize hW3 : World.alloc _ _ = W3
 obtain ⟨HB, hh0, hh1, hh2⟩ := bx3 hW3
 rw [← hmf] at hh1
 rw [← hmo] at hh2
 have HRES := Lib.hid hh0
 have HMF : Hid (MapX In64 3 encI W3 mf 0 (lookV [])) := (MapX.empty hh1).congr (fun _ => rfl)
 have HMO : Hid (MapX InB 61 encB W3 mo 0 (hasV [])) := (MapX.empty hh2).congr (fun _ => rfl)
 have hrl := lt_of_heap hh0
 have hfl := lt_of_heap hh1
 have hol := lt_of_heap hh2
 clear hW3 hh0 hh1 hh2 hmm
 go_wp2
 have hmne : mf ≠ mo := by omega
 have hmw : w.heap.size < mf := by omega
 have hmw2 : w.heap.size < mo := by omega
 have HBU : Hid (∀ wr, Upd (fun k => k = mf ∨ k = mo) W3 wr → Below w.heap.size w wr) := fun wr hu => HB.out.trans (hu.below HB.out.size (fun k hk => by omega))
 have HJ0 : Hid (JAt W3 mf mo (factsOf (fs.take 0)) (ordersOf (fs.take 0)) true W3) := ⟨⟨0, Nat.zero_le _, HMF.out⟩, ⟨0, Nat.zero_le _, HMO.out⟩, Upd.refl _ _, ⟨fun _ x hx => (by cases hx), fun _ => rfl⟩⟩
 clear HMF HMO
 have HME := Lib.hid hmf; clear hmf
 have HMG := Lib.hid hmo; clear hmo
 go_loopg [22, 6] fs.length (fun gk v22 v6 wr => ∃ (k : Nat) (sm : Bool), gk = fs.length - k ∧ k ≤ fs.length ∧ v22 = .int .i64 k ∧ v6 = .bool sm ∧ Hid (JAt W3 mf mo (factsOf (fs.take k)) (ordersOf (fs.take k)) sm wr))
 case atStart => exact ⟨0, true, rfl, Nat.zero_le _, rfl, rfl, HJ0⟩
 case round =>
  clear HJ0
  obtain ⟨k, sm, hgk, hk, rfl, rfl, HJ⟩ := hrel
  have HGK := Lib.hid hgk; clear hgk
  by_cases hlt : k < fs.length
  · obtain ⟨⟨ho, F, O⟩, hx⟩ : ∃ x, fs[k]? = some x := ⟨fs[k], List.getElem?_eq_getElem hlt⟩
    obtain ⟨⟨⟨gA, gc⟩, ⟨qA, qc⟩⟩, hfa, hcell⟩ := HFILE.out k _ hx
    have hbw := HBU.out wr HJ.out.upd
    have c0 : wr.cell? ⟨fb, fo + k * 3, none⟩ = some (.int .i64 ho) := hcell wr hbw 0 (by omega)
    have c1 : wr.cell? ⟨fb, fo + k * 3 + 1, none⟩ = some (.slice gA F.length gc) := hcell wr hbw 1 (by omega)
    have c2 : wr.cell? ⟨fb, fo + k * 3 + 2, none⟩ = some (.slice qA O.length qc) := hcell wr hbw 2 (by omega)
    have HFF : Hid (At w 6 gA F.length gc (factCells F)) := hfa.facts
    have HQQ : Hid (At w 2 qA O.length qc (befCells O)) := hfa.orders
    have hFl : F.length ≤ 9223372036854775807 := by have := hfa.lenF; simp only at this; omega
    have hOl : O.length ≤ 9223372036854775807 := by have := hfa.lenO; simp only at this; omega
    have hLk : Hid (factsOf (fs.take (k + 1)) = factsOf (fs.take k) ++ F) := facts_snoc hx
    have hOk : Hid (ordersOf (fs.take (k + 1)) = ordersOf (fs.take k) ++ O) := orders_snoc hx
    have HRF : Hid (∀ x ∈ F, In64 x.ref) := fun x hxF => HR.out x (List.mem_flatMap.2 ⟨_, List.mem_of_getElem? hx, hxF⟩)
    have HLF : Hid ((factsOf (fs.take k)).length + F.length ≤ 4000) := by
     show _ ≤ _
     have h1 : (factsOf (fs.take (k + 1))).length ≤ (factsOf fs).length := by
      have h2 : factsOf fs = factsOf (fs.take (k + 1)) ++ factsOf (fs.drop (k + 1)) := by unfold factsOf; rw [← List.flatMap_append, List.take_append_drop]
      rw [h2, List.length_append]; omega
     rw [hLk.out, List.length_append] at h1
     have := HLL.out
     omega
    have HLO : Hid ((ordersOf (fs.take k)).length + O.length ≤ 4000) := by
     show _ ≤ _
     have h1 : (ordersOf (fs.take (k + 1))).length ≤ (ordersOf fs).length := by
      have h2 : ordersOf fs = ordersOf (fs.take (k + 1)) ++ ordersOf (fs.drop (k + 1)) := by unfold ordersOf; rw [← List.flatMap_append, List.take_append_drop]
      rw [h2, List.length_append]; omega
     rw [hOk.out, List.length_append] at h1
     have := HOL.out
     omega
    have HXB : Hid (∀ x ∈ O, InB x) := fun b hb => by
     obtain ⟨⟨x, hx1, e1⟩, y, hy1, e2⟩ := HK.out b (List.mem_flatMap.2 ⟨_, List.mem_of_getElem? hx, hb⟩)
     exact ⟨e1 ▸ HR.out x hx1, e2 ▸ HR.out y hy1⟩
    generalize factsOf (fs.take k) = LK at HJ hLk HLF
    generalize ordersOf (fs.take k) = OK at HJ hOk HLO
    clear hx hcell hfa hbw
    go_upto_region 7 with (fail)
    generalize hWa : World.alloc _ _ = Wa
    obtain ⟨hba, hxa⟩ := bx1' hWa
    obtain ⟨bf, hbf⟩ : ∃ bf, bf = wr.heap.size := ⟨_, rfl⟩
    rw [← hbf] at hxa
    rw [← hbf]
    have d1 : Wa.cell? ⟨bf, 1, none⟩ = some (.slice gA F.length gc) := (cell_of_row Wa _ 1 _ _ _ hxa).trans rfl
    have d2 : Wa.cell? ⟨bf, 2, none⟩ = some (.slice qA O.length qc) := (cell_of_row Wa _ 2 _ _ _ hxa).trans rfl
    have hbl := lt_of_heap hxa
    have HJa := Lib.hid (HJ.out.on hba)
    have hbf3 : W3.heap.size ≤ bf := by have := HJ.out.upd.size; omega
    have HBF := Lib.hid hbf; clear hbf
    clear hWa hba hxa c0 c1 c2 HJ
    go_wp2
    go_loopg [29, 6] F.length (fun g2 v29 v6 wq => ∃ (j : Nat) (sm : Bool), g2 = F.length - j ∧ j ≤ F.length ∧ v29 = .int .i64 j ∧ v6 = .bool sm ∧ Hid (JAt W3 mf mo (LK ++ F.take j) OK sm wq) ∧ Hid (Upd (fun k => k = mf ∨ k = mo) Wa wq))
    case atStart => exact ⟨0, sm, rfl, Nat.zero_le _, rfl, rfl, by rw [List.take_zero, List.append_nil]; exact HJa, Upd.refl _ _⟩
    case round =>
     clear HJa sm
     obtain ⟨j, sm, hg2, hj, rfl, rfl, HJ, HU⟩ := hrel
     have HG2 := Lib.hid hg2; clear hg2
     by_cases hjl : j < F.length
     · obtain ⟨ab, ao, hA, hab, hcell⟩ := HFF.out.fact (by omega)
       subst hA
       obtain ⟨⟨re, ac, lo, hi, fi, se⟩, hx⟩ : ∃ x, F[j]? = some x := ⟨F[j], List.getElem?_eq_getElem hjl⟩
       have hbw := HBU.out wr HJ.out.upd
       have hre : In64 re := HRF.out _ (List.mem_of_getElem? hx)
       have e0 : wr.cell? ⟨ab, ao + j * 6, none⟩ = some (.int .i64 re) := hcell j _ hx wr hbw 0 (by omega)
       have e1 : wr.cell? ⟨ab, ao + j * 6 + 1, none⟩ = some (.int .i64 ac) := hcell j _ hx wr hbw 1 (by omega)
       have e2 : wr.cell? ⟨ab, ao + j * 6 + 2, none⟩ = some (.int .i64 lo) := hcell j _ hx wr hbw 2 (by omega)
       have e3 : wr.cell? ⟨ab, ao + j * 6 + 3, none⟩ = some (.int .i64 hi) := hcell j _ hx wr hbw 3 (by omega)
       have e4 : wr.cell? ⟨ab, ao + j * 6 + 4, none⟩ = some (.int .i64 fi) := hcell j _ hx wr hbw 4 (by omega)
       have e5 : wr.cell? ⟨ab, ao + j * 6 + 5, none⟩ = some (.bool se) := hcell j _ hx wr hbw 5 (by omega)
       have HSN : Hid (LK ++ F.take (j + 1) = (LK ++ F.take j) ++ [⟨re, ac, lo, hi, fi, se⟩]) := by show _ = _; rw [take_snocX hx, List.append_assoc]
       have HLT : Hid ((LK ++ F.take j).length < 4000) := by show _ < _; have := HLF.out; rw [List.length_append, List.length_take]; omega
       generalize LK ++ F.take j = L at HJ HSN HLT
       clear hx hcell hbw
       have jF : (j : Int) < (F.length : Int) := by omega
       go_upto_region 10 with (fail)
       generalize hWb : World.alloc _ _ = Wb
       obtain ⟨hbb, hxb⟩ := bx1' hWb
       have hwb := hbb.size
       have q0 : Wb.cell? ⟨wr.heap.size, 0, none⟩ = some (.int .i64 re) := (cell_of_row Wb _ 0 _ _ _ hxb).trans rfl
       have q1 : Wb.cell? ⟨wr.heap.size, 1, none⟩ = some (.int .i64 ac) := (cell_of_row Wb _ 1 _ _ _ hxb).trans rfl
       have q2 : Wb.cell? ⟨wr.heap.size, 2, none⟩ = some (.int .i64 lo) := (cell_of_row Wb _ 2 _ _ _ hxb).trans rfl
       have q3 : Wb.cell? ⟨wr.heap.size, 3, none⟩ = some (.int .i64 hi) := (cell_of_row Wb _ 3 _ _ _ hxb).trans rfl
       have q4 : Wb.cell? ⟨wr.heap.size, 4, none⟩ = some (.int .i64 fi) := (cell_of_row Wb _ 4 _ _ _ hxb).trans rfl
       have q5 : Wb.cell? ⟨wr.heap.size, 5, none⟩ = some (.bool se) := (cell_of_row Wb _ 5 _ _ _ hxb).trans rfl
       have hxl := lt_of_heap hxb
       have HJb := Lib.hid (HJ.out.on hbb)
       have HUb : Hid (Upd (fun k => k = mf ∨ k = mo) Wa Wb) := updOn HU.out hbb
       have hsWa := HU.out.size
       clear hWb hbb hxb e0 e1 e2 e3 e4 e5 HJ HU
       obtain ⟨nF, hnF, hmf⟩ := HJb.out.f
       have hlk := MapX.lookOk lawI Tryz.underlying90 hmf (zeroF Wb) hre (keyI hre)
       cases hl : look L re with
       | none =>
        have hv : lookV L re = none := by unfold lookV; rw [hl]; rfl
        rw [hv] at hlk
        simp only [Option.getD_none, Option.isSome_none] at hlk
        have HLN : Hid (look L re = none) := hl
        clear hl hv
        go_upto_region 12 with (fail)
        generalize hWc : World.alloc _ _ = Wc
        obtain ⟨hbc, hxc⟩ := bx1' hWc
        have p0 := ((bcell hbc).1 _ _ hxl).trans q0
        have p1 := ((bcell hbc).1 _ _ hxl).trans q1
        have p2 := ((bcell hbc).1 _ _ hxl).trans q2
        have p3 := ((bcell hbc).1 _ _ hxl).trans q3
        have p4 := ((bcell hbc).1 _ _ hxl).trans q4
        have p5 := ((bcell hbc).1 _ _ hxl).trans q5
        have HJc := Lib.hid (HJb.out.on hbc)
        have HUc : Hid (Upd (fun k => k = mf ∨ k = mo) Wa Wc) := updOn HUb.out hbc
        obtain ⟨nF, hnF, hmf⟩ := HJc.out.f
        obtain ⟨w2, hrun, hm2, htr⟩ := MapX.put encI_inj lawI Tryz.underlying90 hmf (by have := HLT.out; unfold maxLen; omega) hre (keyI hre) (.agg #[.int .i64 re, .int .i64 ac, .int .i64 lo, .int .i64 hi, .int .i64 fi, .bool se])
        have hut := mapTurned_updX htr
        have HJ2 : Hid (JAt W3 mf mo (LK ++ F.take (j + 1)) OK sm w2) := by
         show JAt _ _ _ _ _ _ _
         rw [HSN.out]
         obtain ⟨nO, hnO, hmo⟩ := HJc.out.o
         exact ⟨⟨_, by rw [List.length_append, List.length_singleton]; split <;> omega, hm2.congr (fun r => lookV_none (x := ⟨re, ac, lo, hi, fi, se⟩) HLN.out r)⟩, ⟨nO, hnO, hmo.upd hut (fun e => hmne e.symm)⟩, HJc.out.upd.trans hut (fun _ _ h => .inl h), HJc.out.same.trans (same_none (x := ⟨re, ac, lo, hi, fi, se⟩) HLN.out).symm⟩
        have HU2 : Hid (Upd (fun k => k = mf ∨ k = mo) Wa w2) := HUc.out.trans hut (fun _ _ h => .inl h)
        clear hWc hbc hxc hmf hm2 htr hut hlk q0 q1 q2 q3 q4 q5 HJb HUb HJc HUc
        go_wp2
        go_roundg (F.length - (j + 1))
        case measure => rw [HG2.out]; omega
        case rel => exact ⟨j + 1, sm, rfl, by omega, by go_num, rfl, HJ2, HU2⟩
       | some y =>
        have hv : lookV L re = some (factV y) := by unfold lookV; rw [hl]; rfl
        rw [hv] at hlk
        obtain ⟨yr, ya, yl, yh, yf, ys⟩ := y
        simp only [Option.getD_some, Option.isSome_some, factV, KFact.cells] at hlk
        have HLS : Hid (look L re = some ⟨yr, ya, yl, yh, yf, ys⟩) := hl
        clear hl hv
        go_upto_region 13 with (fail)
        generalize hWc : World.alloc _ _ = Wc
        obtain ⟨hbc, hxc⟩ := bx1' hWc
        have HOb : Hid (Own Wc 50 Wb.heap.size [.int .i64 yr, .int .i64 ya, .int .i64 yl, .int .i64 yh, .int .i64 yf, .bool ys]) := ⟨[], by rw [List.append_nil]; exact hxc⟩
        have p0 := ((bcell hbc).1 _ _ hxl).trans q0
        have p1 := ((bcell hbc).1 _ _ hxl).trans q1
        have p2 := ((bcell hbc).1 _ _ hxl).trans q2
        have p3 := ((bcell hbc).1 _ _ hxl).trans q3
        have p4 := ((bcell hbc).1 _ _ hxl).trans q4
        have p5 := ((bcell hbc).1 _ _ hxl).trans q5
        have o0 : Wc.cell? ⟨Wb.heap.size, 0, none⟩ = some (.int .i64 yr) := HOb.out.cell rfl
        have o1 : Wc.cell? ⟨Wb.heap.size, 1, none⟩ = some (.int .i64 ya) := HOb.out.cell rfl
        have o2 : Wc.cell? ⟨Wb.heap.size, 2, none⟩ = some (.int .i64 yl) := HOb.out.cell rfl
        have o3 : Wc.cell? ⟨Wb.heap.size, 3, none⟩ = some (.int .i64 yh) := HOb.out.cell rfl
        have z2 := HOb.out.frozen 2
        have z3 := HOb.out.frozen 3
        have HJc := Lib.hid (HJb.out.on hbc)
        have HUc : Hid (Upd (fun k => k = mf ∨ k = mo) Wa Wc) := updOn HUb.out hbc
        have hwc := hbc.size
        have hne : ¬ (wr.heap.size = Wb.heap.size) := by omega
        have hne' : ¬ (Wb.heap.size = wr.heap.size) := by omega
        have HSM : Hid ((sm && (ya == ac)) = true ↔ SameP (LK ++ F.take (j + 1))) := by
         show _ ↔ _
         rw [HSN.out, same_some (x := ⟨re, ac, lo, hi, fi, se⟩) HLS.out, Bool.and_eq_true, HJc.out.same, beq_iff_eq]
        clear hWc hbc hxc hmf hlk q0 q1 q2 q3 q4 q5 HJb HUb hnF
        cases sm with
        | false =>
         cases ys with
         | false =>
          as_aux_lemma =>
           go_upto_region 14 with (fail)
           refine wp_region_wait (w1 := Wc.drew.setCell ⟨Wb.heap.size, 2, none⟩ (.int .i64 (max yl lo))) 13 11 (by omega) (by simp) (by kernel_rfl) (by kernel_rfl) ?_
           simp only [List.take_succ_cons, List.take_zero, List.drop_succ_cons, List.drop_zero]
           refine wpP_still rfl (fun K hK => ?_); go_simp; refine hK _ ?_; clear hK K
           refine wpP_first rfl (by kernel_rfl) (fun K hK => ?_); go_simp; refine hK _ ?_; clear hK K
           repeat (refine wpP_still rfl (fun K hK => ?_); go_simp; refine hK _ ?_; clear hK K)
           refine wpP_turn rfl rfl ?_ ?_
           · go_simp
           go_simp
           repeat (refine wpP_still rfl (fun K hK => ?_); go_simp; refine hK _ ?_; clear hK K)
           refine wpP_nil ?_
           gi_wp2
           go_upto_region 15 with (fail)
           obtain ⟨W5, HW5⟩ : ∃ W5, Hid (W5 = ((Wc.setCell ⟨Wb.heap.size, 2, none⟩ (.int .i64 (max yl lo))).setCell ⟨Wb.heap.size, 3, none⟩ (.int .i64 (min yh hi))).drew) := ⟨_, rfl⟩
           rw [← HW5.out]
           have HU5 : Hid (Upd (fun k => k = Wb.heap.size) Wc W5) := by show Upd _ _ _; rw [HW5.out]; exact (((Upd.refl (fun k => k = Wb.heap.size) Wc).setCell (.inl rfl) _).setCell (.inl rfl) _).drew
           have HO5 : Hid (Own W5 50 Wb.heap.size [.int .i64 yr, .int .i64 ya, .int .i64 (max yl lo), .int .i64 (min yh hi), .int .i64 yf, .bool false]) := by
            show Own _ _ _ _
            rw [HW5.out]
            exact ((HOb.out.set (i := 2) (by simp) _).set (i := 3) (by simp) _).keep ((Upd.refl (fun _ => False) _).drew) (fun h => h)
           have r0 := (updCell HU5.out (by omega) hne).trans p0
           have r4 := (updCell HU5.out (by omega) hne).trans p4
           have r5 := (updCell HU5.out (by omega) hne).trans p5
           have s4 : W5.cell? ⟨Wb.heap.size, 4, none⟩ = some (.int .i64 yf) := HO5.out.cell rfl
           have g4 := HO5.out.frozen 4
           clear p0 p1 p2 p3 p4 p5 o0 o1 o2 o3 z2 z3 HW5
           go_upto_region 16 with (fail)
           obtain ⟨W6, HW6⟩ : ∃ W6, Hid (W6 = W5.setCell ⟨Wb.heap.size, 4, none⟩ (.int .i64 (min yf fi))) := ⟨_, rfl⟩
           rw [← HW6.out]
           have hu6 : Upd (fun k => k = Wb.heap.size) W5 W6 := by rw [HW6.out]; exact (Upd.refl (fun k => k = Wb.heap.size) W5).setCell (.inl rfl) _
           have HO6 : Hid (Own W6 50 Wb.heap.size [.int .i64 yr, .int .i64 ya, .int .i64 (max yl lo), .int .i64 (min yh hi), .int .i64 (min yf fi), .bool false]) := by
            show Own _ _ _ _
            rw [HW6.out]
            exact HO5.out.set (i := 4) (by simp) _
           have hs5 := HU5.out.size
           have m0 := (updCell hu6 (by omega) hne).trans r0
           have m5 := (updCell hu6 (by omega) hne).trans r5
           have s5 : W6.cell? ⟨Wb.heap.size, 5, none⟩ = some (.bool false) := HO6.out.cell rfl
           have g5 := HO6.out.frozen 5
           have HU6 : Hid (Upd (fun k => k = Wb.heap.size) Wc W6) := HU5.out.trans hu6 (fun _ _ h => h)
           clear r0 r4 r5 s4 g4 HW6 hu6 HO5 HU5
           go_upto_region 17 with (fail)
           obtain ⟨W7, HW7⟩ : ∃ W7, Hid (W7 = W6.setCell ⟨Wb.heap.size, 5, none⟩ (.bool false)) := ⟨_, rfl⟩
           rw [← HW7.out]
           have hu7 : Upd (fun k => k = Wb.heap.size) W6 W7 := by rw [HW7.out]; exact (Upd.refl (fun k => k = Wb.heap.size) W6).setCell (.inl rfl) _
           have HO7 : Hid (Own W7 50 Wb.heap.size [.int .i64 yr, .int .i64 ya, .int .i64 (max yl lo), .int .i64 (min yh hi), .int .i64 (min yf fi), .bool false]) := by
            show Own _ _ _ _
            rw [HW7.out]
            exact HO6.out.set (i := 5) (by simp) _
           have hs6 := HU6.out.size
           have n0 := (updCell hu7 (by omega) hne).trans m0
           have HU7 : Hid (Upd (fun k => k = Wb.heap.size) Wc W7) := HU6.out.trans hu7 (fun _ _ h => h)
           have t0 : W7.cell? ⟨Wb.heap.size, 0, none⟩ = some (.int .i64 yr) := HO7.out.cell rfl
           have t1 : W7.cell? ⟨Wb.heap.size, 1, none⟩ = some (.int .i64 ya) := HO7.out.cell rfl
           have t2 : W7.cell? ⟨Wb.heap.size, 2, none⟩ = some (.int .i64 (max yl lo)) := HO7.out.cell rfl
           have t3 : W7.cell? ⟨Wb.heap.size, 3, none⟩ = some (.int .i64 (min yh hi)) := HO7.out.cell rfl
           have t4 : W7.cell? ⟨Wb.heap.size, 4, none⟩ = some (.int .i64 (min yf fi)) := HO7.out.cell rfl
           have t5 : W7.cell? ⟨Wb.heap.size, 5, none⟩ = some (.bool false) := HO7.out.cell rfl
           clear m0 m5 s5 g5 HW7 hu7 HO6 HU6
           have HJ7 := Lib.hid (HJc.out.turn HU7.out (by omega) (by omega) (fun k hk e => by omega))
           have HUa7 : Hid (Upd (fun k => k = mf ∨ k = mo) Wa W7) := HUc.out.trans HU7.out (fun i hi e => by omega)
           obtain ⟨nF, hnF, hmf⟩ := HJ7.out.f
           obtain ⟨w2, hrun, hm2, htr⟩ := MapX.put encI_inj lawI Tryz.underlying90 hmf (by have := HLT.out; unfold maxLen; omega) hre (keyI hre) (.agg #[.int .i64 yr, .int .i64 ya, .int .i64 (max yl lo), .int .i64 (min yh hi), .int .i64 (min yf fi), .bool false])
           have hut := mapTurned_updX htr
           have HJ2 : Hid (JAt W3 mf mo (LK ++ F.take (j + 1)) OK false w2) := by
            show JAt _ _ _ _ _ _ _
            have hsm := HSM.out
            rw [HSN.out] at hsm ⊢
            obtain ⟨nO, hnO, hmo⟩ := HJ7.out.o
            refine ⟨⟨_, by rw [List.length_append, List.length_singleton]; split <;> omega, hm2.congr (fun r => ?_)⟩, ⟨nO, hnO, hmo.upd hut (fun e => hmne e.symm)⟩, HJ7.out.upd.trans hut (fun _ _ h => .inl h), hsm⟩
            exact lookV_some (x := ⟨re, ac, lo, hi, fi, se⟩) HLS.out r
           have HU2 : Hid (Upd (fun k => k = mf ∨ k = mo) Wa w2) := HUa7.out.trans hut (fun _ _ h => .inl h)
           clear hmf hm2 htr hut HJ7 HUa7 HU7 HO7 HJc HUc HSM HLS
           go_wp2
           go_roundg (F.length - (j + 1))
           case measure => rw [HG2.out]; omega
           case rel => exact ⟨j + 1, _, rfl, by omega, by go_num, rfl, HJ2, HU2⟩
         | true =>
          as_aux_lemma =>
           go_upto_region 14 with (fail)
           refine wp_region_wait (w1 := Wc.drew.setCell ⟨Wb.heap.size, 2, none⟩ (.int .i64 (max yl lo))) 13 11 (by omega) (by simp) (by kernel_rfl) (by kernel_rfl) ?_
           simp only [List.take_succ_cons, List.take_zero, List.drop_succ_cons, List.drop_zero]
           refine wpP_still rfl (fun K hK => ?_); go_simp; refine hK _ ?_; clear hK K
           refine wpP_first rfl (by kernel_rfl) (fun K hK => ?_); go_simp; refine hK _ ?_; clear hK K
           repeat (refine wpP_still rfl (fun K hK => ?_); go_simp; refine hK _ ?_; clear hK K)
           refine wpP_turn rfl rfl ?_ ?_
           · go_simp
           go_simp
           repeat (refine wpP_still rfl (fun K hK => ?_); go_simp; refine hK _ ?_; clear hK K)
           refine wpP_nil ?_
           gi_wp2
           go_upto_region 15 with (fail)
           obtain ⟨W5, HW5⟩ : ∃ W5, Hid (W5 = ((Wc.setCell ⟨Wb.heap.size, 2, none⟩ (.int .i64 (max yl lo))).setCell ⟨Wb.heap.size, 3, none⟩ (.int .i64 (min yh hi))).drew) := ⟨_, rfl⟩
           rw [← HW5.out]
           have HU5 : Hid (Upd (fun k => k = Wb.heap.size) Wc W5) := by show Upd _ _ _; rw [HW5.out]; exact (((Upd.refl (fun k => k = Wb.heap.size) Wc).setCell (.inl rfl) _).setCell (.inl rfl) _).drew
           have HO5 : Hid (Own W5 50 Wb.heap.size [.int .i64 yr, .int .i64 ya, .int .i64 (max yl lo), .int .i64 (min yh hi), .int .i64 yf, .bool true]) := by
            show Own _ _ _ _
            rw [HW5.out]
            exact ((HOb.out.set (i := 2) (by simp) _).set (i := 3) (by simp) _).keep ((Upd.refl (fun _ => False) _).drew) (fun h => h)
           have r0 := (updCell HU5.out (by omega) hne).trans p0
           have r4 := (updCell HU5.out (by omega) hne).trans p4
           have r5 := (updCell HU5.out (by omega) hne).trans p5
           have s4 : W5.cell? ⟨Wb.heap.size, 4, none⟩ = some (.int .i64 yf) := HO5.out.cell rfl
           have g4 := HO5.out.frozen 4
           clear p0 p1 p2 p3 p4 p5 o0 o1 o2 o3 z2 z3 HW5
           go_upto_region 16 with (fail)
           obtain ⟨W6, HW6⟩ : ∃ W6, Hid (W6 = W5.setCell ⟨Wb.heap.size, 4, none⟩ (.int .i64 (min yf fi))) := ⟨_, rfl⟩
           rw [← HW6.out]
           have hu6 : Upd (fun k => k = Wb.heap.size) W5 W6 := by rw [HW6.out]; exact (Upd.refl (fun k => k = Wb.heap.size) W5).setCell (.inl rfl) _
           have HO6 : Hid (Own W6 50 Wb.heap.size [.int .i64 yr, .int .i64 ya, .int .i64 (max yl lo), .int .i64 (min yh hi), .int .i64 (min yf fi), .bool true]) := by
            show Own _ _ _ _
            rw [HW6.out]
            exact HO5.out.set (i := 4) (by simp) _
           have hs5 := HU5.out.size
           have m0 := (updCell hu6 (by omega) hne).trans r0
           have m5 := (updCell hu6 (by omega) hne).trans r5
           have s5 : W6.cell? ⟨Wb.heap.size, 5, none⟩ = some (.bool true) := HO6.out.cell rfl
           have g5 := HO6.out.frozen 5
           have HU6 : Hid (Upd (fun k => k = Wb.heap.size) Wc W6) := HU5.out.trans hu6 (fun _ _ h => h)
           clear r0 r4 r5 s4 g4 HW6 hu6 HO5 HU5
           go_upto_region 17 with (fail)
           obtain ⟨W7, HW7⟩ : ∃ W7, Hid (W7 = W6.setCell ⟨Wb.heap.size, 5, none⟩ (.bool se)) := ⟨_, rfl⟩
           rw [← HW7.out]
           have hu7 : Upd (fun k => k = Wb.heap.size) W6 W7 := by rw [HW7.out]; exact (Upd.refl (fun k => k = Wb.heap.size) W6).setCell (.inl rfl) _
           have HO7 : Hid (Own W7 50 Wb.heap.size [.int .i64 yr, .int .i64 ya, .int .i64 (max yl lo), .int .i64 (min yh hi), .int .i64 (min yf fi), .bool se]) := by
            show Own _ _ _ _
            rw [HW7.out]
            exact HO6.out.set (i := 5) (by simp) _
           have hs6 := HU6.out.size
           have n0 := (updCell hu7 (by omega) hne).trans m0
           have HU7 : Hid (Upd (fun k => k = Wb.heap.size) Wc W7) := HU6.out.trans hu7 (fun _ _ h => h)
           have t0 : W7.cell? ⟨Wb.heap.size, 0, none⟩ = some (.int .i64 yr) := HO7.out.cell rfl
           have t1 : W7.cell? ⟨Wb.heap.size, 1, none⟩ = some (.int .i64 ya) := HO7.out.cell rfl
           have t2 : W7.cell? ⟨Wb.heap.size, 2, none⟩ = some (.int .i64 (max yl lo)) := HO7.out.cell rfl
           have t3 : W7.cell? ⟨Wb.heap.size, 3, none⟩ = some (.int .i64 (min yh hi)) := HO7.out.cell rfl
           have t4 : W7.cell? ⟨Wb.heap.size, 4, none⟩ = some (.int .i64 (min yf fi)) := HO7.out.cell rfl
           have t5 : W7.cell? ⟨Wb.heap.size, 5, none⟩ = some (.bool se) := HO7.out.cell rfl
           clear m0 m5 s5 g5 HW7 hu7 HO6 HU6
           have HJ7 := Lib.hid (HJc.out.turn HU7.out (by omega) (by omega) (fun k hk e => by omega))
           have HUa7 : Hid (Upd (fun k => k = mf ∨ k = mo) Wa W7) := HUc.out.trans HU7.out (fun i hi e => by omega)
           obtain ⟨nF, hnF, hmf⟩ := HJ7.out.f
           obtain ⟨w2, hrun, hm2, htr⟩ := MapX.put encI_inj lawI Tryz.underlying90 hmf (by have := HLT.out; unfold maxLen; omega) hre (keyI hre) (.agg #[.int .i64 yr, .int .i64 ya, .int .i64 (max yl lo), .int .i64 (min yh hi), .int .i64 (min yf fi), .bool se])
           have hut := mapTurned_updX htr
           have HJ2 : Hid (JAt W3 mf mo (LK ++ F.take (j + 1)) OK false w2) := by
            show JAt _ _ _ _ _ _ _
            have hsm := HSM.out
            rw [HSN.out] at hsm ⊢
            obtain ⟨nO, hnO, hmo⟩ := HJ7.out.o
            refine ⟨⟨_, by rw [List.length_append, List.length_singleton]; split <;> omega, hm2.congr (fun r => ?_)⟩, ⟨nO, hnO, hmo.upd hut (fun e => hmne e.symm)⟩, HJ7.out.upd.trans hut (fun _ _ h => .inl h), hsm⟩
            exact lookV_some (x := ⟨re, ac, lo, hi, fi, se⟩) HLS.out r
           have HU2 : Hid (Upd (fun k => k = mf ∨ k = mo) Wa w2) := HUa7.out.trans hut (fun _ _ h => .inl h)
           clear hmf hm2 htr hut HJ7 HUa7 HU7 HO7 HJc HUc HSM HLS
           go_wp2
           go_roundg (F.length - (j + 1))
           case measure => rw [HG2.out]; omega
           case rel => exact ⟨j + 1, _, rfl, by omega, by go_num, rfl, HJ2, HU2⟩
        | true =>
         cases ys with
         | false =>
          as_aux_lemma =>
           go_upto_region 14 with (fail)
           refine wp_region_wait (w1 := Wc.drew.setCell ⟨Wb.heap.size, 2, none⟩ (.int .i64 (max yl lo))) 13 11 (by omega) (by simp) (by kernel_rfl) (by kernel_rfl) ?_
           simp only [List.take_succ_cons, List.take_zero, List.drop_succ_cons, List.drop_zero]
           refine wpP_still rfl (fun K hK => ?_); go_simp; refine hK _ ?_; clear hK K
           refine wpP_first rfl (by kernel_rfl) (fun K hK => ?_); go_simp; refine hK _ ?_; clear hK K
           repeat (refine wpP_still rfl (fun K hK => ?_); go_simp; refine hK _ ?_; clear hK K)
           refine wpP_turn rfl rfl ?_ ?_
           · go_simp
           go_simp
           repeat (refine wpP_still rfl (fun K hK => ?_); go_simp; refine hK _ ?_; clear hK K)
           refine wpP_nil ?_
           gi_wp2
           go_upto_region 15 with (fail)
           obtain ⟨W5, HW5⟩ : ∃ W5, Hid (W5 = ((Wc.setCell ⟨Wb.heap.size, 2, none⟩ (.int .i64 (max yl lo))).setCell ⟨Wb.heap.size, 3, none⟩ (.int .i64 (min yh hi))).drew) := ⟨_, rfl⟩
           rw [← HW5.out]
           have HU5 : Hid (Upd (fun k => k = Wb.heap.size) Wc W5) := by show Upd _ _ _; rw [HW5.out]; exact (((Upd.refl (fun k => k = Wb.heap.size) Wc).setCell (.inl rfl) _).setCell (.inl rfl) _).drew
           have HO5 : Hid (Own W5 50 Wb.heap.size [.int .i64 yr, .int .i64 ya, .int .i64 (max yl lo), .int .i64 (min yh hi), .int .i64 yf, .bool false]) := by
            show Own _ _ _ _
            rw [HW5.out]
            exact ((HOb.out.set (i := 2) (by simp) _).set (i := 3) (by simp) _).keep ((Upd.refl (fun _ => False) _).drew) (fun h => h)
           have r0 := (updCell HU5.out (by omega) hne).trans p0
           have r4 := (updCell HU5.out (by omega) hne).trans p4
           have r5 := (updCell HU5.out (by omega) hne).trans p5
           have s4 : W5.cell? ⟨Wb.heap.size, 4, none⟩ = some (.int .i64 yf) := HO5.out.cell rfl
           have g4 := HO5.out.frozen 4
           clear p0 p1 p2 p3 p4 p5 o0 o1 o2 o3 z2 z3 HW5
           go_upto_region 16 with (fail)
           obtain ⟨W6, HW6⟩ : ∃ W6, Hid (W6 = W5.setCell ⟨Wb.heap.size, 4, none⟩ (.int .i64 (min yf fi))) := ⟨_, rfl⟩
           rw [← HW6.out]
           have hu6 : Upd (fun k => k = Wb.heap.size) W5 W6 := by rw [HW6.out]; exact (Upd.refl (fun k => k = Wb.heap.size) W5).setCell (.inl rfl) _
           have HO6 : Hid (Own W6 50 Wb.heap.size [.int .i64 yr, .int .i64 ya, .int .i64 (max yl lo), .int .i64 (min yh hi), .int .i64 (min yf fi), .bool false]) := by
            show Own _ _ _ _
            rw [HW6.out]
            exact HO5.out.set (i := 4) (by simp) _
           have hs5 := HU5.out.size
           have m0 := (updCell hu6 (by omega) hne).trans r0
           have m5 := (updCell hu6 (by omega) hne).trans r5
           have s5 : W6.cell? ⟨Wb.heap.size, 5, none⟩ = some (.bool false) := HO6.out.cell rfl
           have g5 := HO6.out.frozen 5
           have HU6 : Hid (Upd (fun k => k = Wb.heap.size) Wc W6) := HU5.out.trans hu6 (fun _ _ h => h)
           clear r0 r4 r5 s4 g4 HW6 hu6 HO5 HU5
           go_upto_region 17 with (fail)
           obtain ⟨W7, HW7⟩ : ∃ W7, Hid (W7 = W6.setCell ⟨Wb.heap.size, 5, none⟩ (.bool false)) := ⟨_, rfl⟩
           rw [← HW7.out]
           have hu7 : Upd (fun k => k = Wb.heap.size) W6 W7 := by rw [HW7.out]; exact (Upd.refl (fun k => k = Wb.heap.size) W6).setCell (.inl rfl) _
           have HO7 : Hid (Own W7 50 Wb.heap.size [.int .i64 yr, .int .i64 ya, .int .i64 (max yl lo), .int .i64 (min yh hi), .int .i64 (min yf fi), .bool false]) := by
            show Own _ _ _ _
            rw [HW7.out]
            exact HO6.out.set (i := 5) (by simp) _
           have hs6 := HU6.out.size
           have n0 := (updCell hu7 (by omega) hne).trans m0
           have HU7 : Hid (Upd (fun k => k = Wb.heap.size) Wc W7) := HU6.out.trans hu7 (fun _ _ h => h)
           have t0 : W7.cell? ⟨Wb.heap.size, 0, none⟩ = some (.int .i64 yr) := HO7.out.cell rfl
           have t1 : W7.cell? ⟨Wb.heap.size, 1, none⟩ = some (.int .i64 ya) := HO7.out.cell rfl
           have t2 : W7.cell? ⟨Wb.heap.size, 2, none⟩ = some (.int .i64 (max yl lo)) := HO7.out.cell rfl
           have t3 : W7.cell? ⟨Wb.heap.size, 3, none⟩ = some (.int .i64 (min yh hi)) := HO7.out.cell rfl
           have t4 : W7.cell? ⟨Wb.heap.size, 4, none⟩ = some (.int .i64 (min yf fi)) := HO7.out.cell rfl
           have t5 : W7.cell? ⟨Wb.heap.size, 5, none⟩ = some (.bool false) := HO7.out.cell rfl
           clear m0 m5 s5 g5 HW7 hu7 HO6 HU6
           have HJ7 := Lib.hid (HJc.out.turn HU7.out (by omega) (by omega) (fun k hk e => by omega))
           have HUa7 : Hid (Upd (fun k => k = mf ∨ k = mo) Wa W7) := HUc.out.trans HU7.out (fun i hi e => by omega)
           obtain ⟨nF, hnF, hmf⟩ := HJ7.out.f
           obtain ⟨w2, hrun, hm2, htr⟩ := MapX.put encI_inj lawI Tryz.underlying90 hmf (by have := HLT.out; unfold maxLen; omega) hre (keyI hre) (.agg #[.int .i64 yr, .int .i64 ya, .int .i64 (max yl lo), .int .i64 (min yh hi), .int .i64 (min yf fi), .bool false])
           have hut := mapTurned_updX htr
           have HJ2 : Hid (JAt W3 mf mo (LK ++ F.take (j + 1)) OK (ya == ac) w2) := by
            show JAt _ _ _ _ _ _ _
            have hsm := HSM.out
            rw [HSN.out] at hsm ⊢
            obtain ⟨nO, hnO, hmo⟩ := HJ7.out.o
            refine ⟨⟨_, by rw [List.length_append, List.length_singleton]; split <;> omega, hm2.congr (fun r => ?_)⟩, ⟨nO, hnO, hmo.upd hut (fun e => hmne e.symm)⟩, HJ7.out.upd.trans hut (fun _ _ h => .inl h), hsm⟩
            exact lookV_some (x := ⟨re, ac, lo, hi, fi, se⟩) HLS.out r
           have HU2 : Hid (Upd (fun k => k = mf ∨ k = mo) Wa w2) := HUa7.out.trans hut (fun _ _ h => .inl h)
           clear hmf hm2 htr hut HJ7 HUa7 HU7 HO7 HJc HUc HSM HLS
           go_wp2
           go_roundg (F.length - (j + 1))
           case measure => rw [HG2.out]; omega
           case rel => exact ⟨j + 1, _, rfl, by omega, by go_num, rfl, HJ2, HU2⟩
         | true =>
          as_aux_lemma =>
           go_upto_region 14 with (fail)
           refine wp_region_wait (w1 := Wc.drew.setCell ⟨Wb.heap.size, 2, none⟩ (.int .i64 (max yl lo))) 13 11 (by omega) (by simp) (by kernel_rfl) (by kernel_rfl) ?_
           simp only [List.take_succ_cons, List.take_zero, List.drop_succ_cons, List.drop_zero]
           refine wpP_still rfl (fun K hK => ?_); go_simp; refine hK _ ?_; clear hK K
           refine wpP_first rfl (by kernel_rfl) (fun K hK => ?_); go_simp; refine hK _ ?_; clear hK K
           repeat (refine wpP_still rfl (fun K hK => ?_); go_simp; refine hK _ ?_; clear hK K)
           refine wpP_turn rfl rfl ?_ ?_
           · go_simp
           go_simp
           repeat (refine wpP_still rfl (fun K hK => ?_); go_simp; refine hK _ ?_; clear hK K)
           refine wpP_nil ?_
           gi_wp2
           go_upto_region 15 with (fail)
           obtain ⟨W5, HW5⟩ : ∃ W5, Hid (W5 = ((Wc.setCell ⟨Wb.heap.size, 2, none⟩ (.int .i64 (max yl lo))).setCell ⟨Wb.heap.size, 3, none⟩ (.int .i64 (min yh hi))).drew) := ⟨_, rfl⟩
           rw [← HW5.out]
           have HU5 : Hid (Upd (fun k => k = Wb.heap.size) Wc W5) := by show Upd _ _ _; rw [HW5.out]; exact (((Upd.refl (fun k => k = Wb.heap.size) Wc).setCell (.inl rfl) _).setCell (.inl rfl) _).drew
           have HO5 : Hid (Own W5 50 Wb.heap.size [.int .i64 yr, .int .i64 ya, .int .i64 (max yl lo), .int .i64 (min yh hi), .int .i64 yf, .bool true]) := by
            show Own _ _ _ _
            rw [HW5.out]
            exact ((HOb.out.set (i := 2) (by simp) _).set (i := 3) (by simp) _).keep ((Upd.refl (fun _ => False) _).drew) (fun h => h)
           have r0 := (updCell HU5.out (by omega) hne).trans p0
           have r4 := (updCell HU5.out (by omega) hne).trans p4
           have r5 := (updCell HU5.out (by omega) hne).trans p5
           have s4 : W5.cell? ⟨Wb.heap.size, 4, none⟩ = some (.int .i64 yf) := HO5.out.cell rfl
           have g4 := HO5.out.frozen 4
           clear p0 p1 p2 p3 p4 p5 o0 o1 o2 o3 z2 z3 HW5
           go_upto_region 16 with (fail)
           obtain ⟨W6, HW6⟩ : ∃ W6, Hid (W6 = W5.setCell ⟨Wb.heap.size, 4, none⟩ (.int .i64 (min yf fi))) := ⟨_, rfl⟩
           rw [← HW6.out]
           have hu6 : Upd (fun k => k = Wb.heap.size) W5 W6 := by rw [HW6.out]; exact (Upd.refl (fun k => k = Wb.heap.size) W5).setCell (.inl rfl) _
           have HO6 : Hid (Own W6 50 Wb.heap.size [.int .i64 yr, .int .i64 ya, .int .i64 (max yl lo), .int .i64 (min yh hi), .int .i64 (min yf fi), .bool true]) := by
            show Own _ _ _ _
            rw [HW6.out]
            exact HO5.out.set (i := 4) (by simp) _
           have hs5 := HU5.out.size
           have m0 := (updCell hu6 (by omega) hne).trans r0
           have m5 := (updCell hu6 (by omega) hne).trans r5
           have s5 : W6.cell? ⟨Wb.heap.size, 5, none⟩ = some (.bool true) := HO6.out.cell rfl
           have g5 := HO6.out.frozen 5
           have HU6 : Hid (Upd (fun k => k = Wb.heap.size) Wc W6) := HU5.out.trans hu6 (fun _ _ h => h)
           clear r0 r4 r5 s4 g4 HW6 hu6 HO5 HU5
           go_upto_region 17 with (fail)
           obtain ⟨W7, HW7⟩ : ∃ W7, Hid (W7 = W6.setCell ⟨Wb.heap.size, 5, none⟩ (.bool se)) := ⟨_, rfl⟩
           rw [← HW7.out]
           have hu7 : Upd (fun k => k = Wb.heap.size) W6 W7 := by rw [HW7.out]; exact (Upd.refl (fun k => k = Wb.heap.size) W6).setCell (.inl rfl) _
           have HO7 : Hid (Own W7 50 Wb.heap.size [.int .i64 yr, .int .i64 ya, .int .i64 (max yl lo), .int .i64 (min yh hi), .int .i64 (min yf fi), .bool se]) := by
            show Own _ _ _ _
            rw [HW7.out]
            exact HO6.out.set (i := 5) (by simp) _
           have hs6 := HU6.out.size
           have n0 := (updCell hu7 (by omega) hne).trans m0
           have HU7 : Hid (Upd (fun k => k = Wb.heap.size) Wc W7) := HU6.out.trans hu7 (fun _ _ h => h)
           have t0 : W7.cell? ⟨Wb.heap.size, 0, none⟩ = some (.int .i64 yr) := HO7.out.cell rfl
           have t1 : W7.cell? ⟨Wb.heap.size, 1, none⟩ = some (.int .i64 ya) := HO7.out.cell rfl
           have t2 : W7.cell? ⟨Wb.heap.size, 2, none⟩ = some (.int .i64 (max yl lo)) := HO7.out.cell rfl
           have t3 : W7.cell? ⟨Wb.heap.size, 3, none⟩ = some (.int .i64 (min yh hi)) := HO7.out.cell rfl
           have t4 : W7.cell? ⟨Wb.heap.size, 4, none⟩ = some (.int .i64 (min yf fi)) := HO7.out.cell rfl
           have t5 : W7.cell? ⟨Wb.heap.size, 5, none⟩ = some (.bool se) := HO7.out.cell rfl
           clear m0 m5 s5 g5 HW7 hu7 HO6 HU6
           have HJ7 := Lib.hid (HJc.out.turn HU7.out (by omega) (by omega) (fun k hk e => by omega))
           have HUa7 : Hid (Upd (fun k => k = mf ∨ k = mo) Wa W7) := HUc.out.trans HU7.out (fun i hi e => by omega)
           obtain ⟨nF, hnF, hmf⟩ := HJ7.out.f
           obtain ⟨w2, hrun, hm2, htr⟩ := MapX.put encI_inj lawI Tryz.underlying90 hmf (by have := HLT.out; unfold maxLen; omega) hre (keyI hre) (.agg #[.int .i64 yr, .int .i64 ya, .int .i64 (max yl lo), .int .i64 (min yh hi), .int .i64 (min yf fi), .bool se])
           have hut := mapTurned_updX htr
           have HJ2 : Hid (JAt W3 mf mo (LK ++ F.take (j + 1)) OK (ya == ac) w2) := by
            show JAt _ _ _ _ _ _ _
            have hsm := HSM.out
            rw [HSN.out] at hsm ⊢
            obtain ⟨nO, hnO, hmo⟩ := HJ7.out.o
            refine ⟨⟨_, by rw [List.length_append, List.length_singleton]; split <;> omega, hm2.congr (fun r => ?_)⟩, ⟨nO, hnO, hmo.upd hut (fun e => hmne e.symm)⟩, HJ7.out.upd.trans hut (fun _ _ h => .inl h), hsm⟩
            exact lookV_some (x := ⟨re, ac, lo, hi, fi, se⟩) HLS.out r
           have HU2 : Hid (Upd (fun k => k = mf ∨ k = mo) Wa w2) := HUa7.out.trans hut (fun _ _ h => .inl h)
           clear hmf hm2 htr hut HJ7 HUa7 HU7 HO7 HJc HUc HSM HLS
           go_wp2
           go_roundg (F.length - (j + 1))
           case measure => rw [HG2.out]; omega
           case rel => exact ⟨j + 1, _, rfl, by omega, by go_num, rfl, HJ2, HU2⟩
     · obtain rfl : j = F.length := by omega
       have HTL : Hid (LK ++ F.take F.length = LK ++ F) := by show _ = _; rw [List.take_length]
       rw [HTL.out] at HJ
       have d2' := (updCell (o := 2) HU.out hbl (by omega)).trans d2
       clear HTL hjl HU
       go_wp2
       go_loopg [87] O.length (fun g2 v87 wq => ∃ j : Nat, g2 = O.length - j ∧ j ≤ O.length ∧ v87 = .int .i64 j ∧ Hid (JAt W3 mf mo (LK ++ F) (OK ++ O.take j) sm wq))
       case atStart => exact ⟨0, rfl, Nat.zero_le _, rfl, by rw [List.take_zero, List.append_nil]; exact HJ⟩
       case round =>
        clear HJ d2'
        obtain ⟨j, hg2, hj, rfl, HJ⟩ := hrel
        have HG3 := Lib.hid hg2; clear hg2
        by_cases hjl : j < O.length
        · obtain ⟨ab, ao, hA, hab, hcell⟩ := HQQ.out.bef (by omega)
          subst hA
          obtain ⟨⟨br, bn⟩, hx⟩ : ∃ x, O[j]? = some x := ⟨O[j], List.getElem?_eq_getElem hjl⟩
          have hbw := HBU.out wr HJ.out.upd
          have hin : InB ⟨br, bn⟩ := HXB.out _ (List.mem_of_getElem? hx)
          have e0 : wr.cell? ⟨ab, ao + j * 2, none⟩ = some (.int .i64 br) := hcell j _ hx wr hbw 0 (by omega)
          have e1 : wr.cell? ⟨ab, ao + j * 2 + 1, none⟩ = some (.int .i64 bn) := hcell j _ hx wr hbw 1 (by omega)
          have HSN : Hid (OK ++ O.take (j + 1) = (OK ++ O.take j) ++ [⟨br, bn⟩]) := by show _ = _; rw [take_snocX hx, List.append_assoc]
          have HLT : Hid ((OK ++ O.take j).length < 4000) := by show _ < _; have := HLO.out; rw [List.length_append, List.length_take]; omega
          generalize OK ++ O.take j = QQ at HJ HSN HLT
          clear hx hcell hbw
          have jO : (j : Int) < (O.length : Int) := by omega
          go_upto_region 22 with (fail)
          generalize hWb : World.alloc _ _ = Wb
          obtain ⟨hbb, hxb⟩ := bx1' hWb
          have q0 : Wb.cell? ⟨wr.heap.size, 0, none⟩ = some (.int .i64 br) := (cell_of_row Wb _ 0 _ _ _ hxb).trans rfl
          have q1 : Wb.cell? ⟨wr.heap.size, 1, none⟩ = some (.int .i64 bn) := (cell_of_row Wb _ 1 _ _ _ hxb).trans rfl
          have HJb := Lib.hid (HJ.out.on hbb)
          obtain ⟨nO, hnO, hmo⟩ := HJb.out.o
          obtain ⟨w2, hrun, hm2, htr⟩ := MapX.put encB_inj lawB Tryz.underlying91 hmo (by have := HLT.out; unfold maxLen; omega) hin (keyB hin) (.bool true)
          have hut := mapTurned_updX htr
          have HJ2 : Hid (JAt W3 mf mo (LK ++ F) (OK ++ O.take (j + 1)) sm w2) := by
           show JAt _ _ _ _ _ _ _
           rw [HSN.out]
           obtain ⟨nF, hnF, hmf⟩ := HJb.out.f
           exact ⟨⟨nF, hnF, hmf.upd hut hmne⟩, ⟨_, by rw [List.length_append, List.length_singleton]; split <;> omega, hm2.congr (fun b => hasV_put QQ ⟨br, bn⟩ b)⟩, HJb.out.upd.trans hut (fun _ _ h => .inr h), HJb.out.same⟩
          clear hWb hbb hxb hmo hm2 htr hut e0 e1 HJb HJ
          go_wp2
          go_roundg (O.length - (j + 1))
          case measure => rw [HG3.out]; omega
          case rel => exact ⟨j + 1, rfl, by omega, by go_num, HJ2⟩
        · obtain rfl : j = O.length := by omega
          have HJ2 : Hid (JAt W3 mf mo (factsOf (fs.take (k + 1))) (ordersOf (fs.take (k + 1))) sm wr) := by
           show JAt _ _ _ _ _ _ _
           have h := HJ.out
           rw [List.take_length] at h
           rw [hLk.out, hOk.out]
           exact h
          go_wp2
          go_roundg (fs.length - (k + 1))
          case measure => rw [HGK.out]; omega
          case rel => exact ⟨k + 1, sm, rfl, by omega, by go_num, rfl, HJ2⟩
  · obtain rfl : k = fs.length := by omega
    have HTL : Hid (fs.take fs.length = fs) := List.take_length
    rw [HTL.out] at HJ
    have hbw := HBU.out wr HJ.out.upd
    obtain ⟨_, _, hcell0⟩ := HFILE.out 0 f0 H0.out
    have c0 : wr.cell? ⟨fb, fo, none⟩ = some (.int .i64 f0.house) := by have h := hcell0 wr hbw 0 (by omega); rw [Nat.zero_mul] at h; exact h
    obtain ⟨nF, hnF, hmf⟩ := HJ.out.f
    obtain ⟨nO, hnO, hmo⟩ := HJ.out.o
    have hlf := fun ty => MapX.len Tryz.underlying90 hmf ty
    have hlo := fun ty => MapX.len Tryz.underlying91 hmo ty
    have n1 : ¬ ((4000 : Int) < (nF : Int)) := by have := HLL.out; omega
    have n2 : ¬ ((4000 : Int) < (nO : Int)) := by have := HOL.out; omega
    have HRW : Hid (Own wr 34 w.heap.size [.int .i64 0, .slice none 0 0, .slice none 0 0]) := ⟨[], by rw [List.append_nil]; exact HJ.out.upd.keep HRES.out (fun h => by omega)⟩
    have HLLL := Lib.hid hlt
    clear hcell0 hmf hmo HTL hlt
    go_upto_region 28 with (fail)
    generalize hWa : World.alloc _ _ = Wa
    obtain ⟨hba, hxa⟩ := bx1' hWa
    obtain ⟨rb, hrb⟩ : ∃ rb, rb = wr.heap.size := ⟨_, rfl⟩
    rw [← hrb] at hxa
    rw [← hrb]
    have hrl' := lt_of_heap hxa
    have hsw := HJ.out.upd.size
    have hrm : mf < rb ∧ mo < rb ∧ w.heap.size < rb ∧ W3.heap.size ≤ rb := by omega
    have HXA : Hid (Own Wa 34 rb [.int .i64 f0.house, .slice none 0 0, .slice none 0 0]) := ⟨[], by rw [List.append_nil]; exact hxa⟩
    have HJa := Lib.hid (HJ.out.on hba)
    have HRa := Lib.hid (HRW.out.below hba)
    obtain ⟨nF', hnF', hmf'⟩ := HJa.out.f
    have HKY := Lib.hid (keysF_any mf Wa)
    have HSO := Lib.hid (sortedF_any hmf' (by have := HLL.out; omega))
    have HRB := Lib.hid hrb; clear hrb
    clear hWa hba hxa hlf hlo n1 n2 hnF hnO hnF' hmf' HJ HRW c0 hbw
    go_wp2_with (first | (go_at_call 39; refine HKY.out.mono ?_; rintro e z0 ⟨rfl, rfl⟩) | (go_at_call 38; refine HSO.out.mono ?_; rintro e Z3 ⟨T, TA, tc, rfl, hAt, hTB, hb, hTP, hTI, hTM⟩; refine Hid.out ?_))
    refine Lib.hid ?_
    have hb3 : Below Wa.heap.size Wa Z3 := Below.step (Below.alloc' (Below.refl _ _) _) hb
    have HT : Hid (T = keysOf (factsOf fs)) := keys_unique hTP (fun r => by
     constructor
     · intro hr
       exact look_isSome.1 (by have h := (hTM r (hTI r hr)).1 hr; unfold lookV at h; simpa using h)
     · rintro ⟨x, hx, rfl⟩
       exact (hTM x.ref (HR.out x hx)).2 (by unfold lookV; simpa using look_isSome.2 ⟨x, hx, rfl⟩))
    have HTIN : Hid (∀ r ∈ T, In64 r ∧ ∃ x, look (factsOf fs) r = some x) := fun r hr => ⟨hTI r hr, by
     rw [HT.out] at hr
     obtain ⟨z, h1, _⟩ := look_some hr
     exact ⟨z, h1⟩⟩
    have htl : T.length ≤ 4000 := by rw [HT.out]; exact Nat.le_trans (keysOf_len _) HLL.out
    have HAT := Lib.hid hAt; clear hAt
    have HTB : Hid (∀ b off, TA = some ⟨b, off, none⟩ → rb < b) := fun b off e => by have h := hTB b off e; rw [World.size_alloc] at h; omega
    have HX3 := Lib.hid (HXA.out.below hb3)
    have HJ3 := Lib.hid (HJa.out.on hb3)
    have HR3 := Lib.hid (HRa.out.below hb3)
    have hs3 := hb3.size
    clear hb hTP hTI hTM hTB hb3 HXA HJa HRa HKY HSO
    obtain ⟨is, hsi, hsz, hss, hsb⟩ := info_parts' (P := Tryz.prog) (t := 50) (z := some (.agg #[.int .i64 0, .int .i64 0, .int .i64 0, .int .i64 0, .int .i64 0, .bool false])) (s := 6) (b := 48) (by kernel_rfl)
    go_wp2
    go_loopg [113] T.length (fun g2 v113 wq => ∃ (i : Nat) (A : Option Addr) (c : Nat), g2 = T.length - i ∧ i ≤ T.length ∧ v113 = .int .i64 i ∧ Hid (Own wq 34 rb [.int .i64 f0.house, .slice A i c, .slice none 0 0]) ∧ Hid (wq.ownsRow Z3.heap.size 50 6 (.slice A i c) i (factCells ((T.take i).filterMap (look (factsOf fs))))) ∧ Hid (Upd (fun k => k = rb) Z3 wq))
    case atStart => exact ⟨0, none, 0, rfl, Nat.zero_le _, rfl, HX3, World.ownsRow_nil _ _ _ _, Upd.refl _ _⟩
    case round =>
     clear HX3
     obtain ⟨i, A, c, hg2, hi, rfl, HX, HRow, HU⟩ := hrel
     have HG2 := Lib.hid hg2; clear hg2
     by_cases hil : i < T.length
     · obtain ⟨tb, toff, hTA, htb, htc⟩ := HAT.out.1.form (by omega) (by omega)
       subst hTA
       obtain ⟨r, hr⟩ : ∃ r, T[i]? = some r := ⟨T[i], List.getElem?_eq_getElem hil⟩
       obtain ⟨hri, ⟨re, ac, lo, hi2, fi, se⟩, hlx⟩ := HTIN.out r (List.mem_of_getElem? hr)
       have htn := HTB.out tb toff rfl
       have ct : wr.cell? ⟨tb, toff + i, none⟩ = some (.int .i64 r) := by
        rw [updCell HU.out htb (by omega), htc i (by omega), List.getElem?_map, hr]
        rfl
       obtain ⟨nF, hnF, hmf⟩ := HJ3.out.f
       have hlk := MapX.look lawI Tryz.underlying90 (hmf.upd HU.out (by omega)) (zeroF wr) hri (keyI hri)
       have hv : lookV (factsOf fs) r = some (factV ⟨re, ac, lo, hi2, fi, se⟩) := by unfold lookV; rw [hlx]; rfl
       rw [hv] at hlk
       simp only [Option.getD_some, factV, KFact.cells] at hlk
       have b0 : wr.cell? ⟨rb, 0, none⟩ = some (.int .i64 f0.house) := HX.out.cell rfl
       have b1 : wr.cell? ⟨rb, 1, none⟩ = some (.slice A i c) := HX.out.cell rfl
       have HSN : Hid ((T.take (i + 1)).filterMap (look (factsOf fs)) = (T.take i).filterMap (look (factsOf fs)) ++ [⟨re, ac, lo, hi2, fi, se⟩]) := by
        show _ = _
        rw [take_snocX hr, List.filterMap_append]
        simp [hlx]
       have iT : (i : Int) < (T.length : Int) := by omega
       have hsz3 := HU.out.size
       clear hr hlx hv hmf hnF htc
       go_wp2_with (at_builtin; refine wpList_append_oneX rfl _ _ 31 rfl 50 is (.agg #[.int .i64 0, .int .i64 0, .int .i64 0, .int .i64 0, .int .i64 0, .bool false]) 6 48 Tryz.underlying31 hsi hsz hss hsb rfl (by decide) Z3.heap.size _ _ _ rfl HRow.out [.int .i64 re, .int .i64 ac, .int .i64 lo, .int .i64 hi2, .int .i64 fi, .bool se] _ rfl rfl (by intro u hu; simp only [List.mem_cons, List.not_mem_nil, or_false] at hu; rcases hu with rfl | rfl | rfl | rfl | rfl | rfl <;> rfl) rfl (by unfold maxLen; omega) (by omega) (by omega) ?_; intro g6 c6 w6 h1 h2; refine Hid.out ?_)
       refine Lib.hid ?_
       have hnb : ∀ k, (Value.slice A i c).ownBlock = some k → Z3.heap.size ≤ k := fun k e => (HRow.out.lt k e).1
       have hg6 : Z3.heap.size ≤ g6 := (h1.lt g6 rfl).1
       have HU6 : Hid (Upd (fun k => Z3.heap.size ≤ k) wr w6) := ((Upd.refl _ wr).alloc _).trans (Upd.of_grown h2) (fun k _ h => hnb k h)
       have HX6 : Hid (Own w6 34 rb [.int .i64 f0.house, .slice A i c, .slice none 0 0]) := HX.out.keep HU6.out (by omega)
       have HR6 : Hid (w6.ownsRow Z3.heap.size 50 6 (.slice (some ⟨g6, 0, none⟩) (i + 1) c6) (i + 1) (factCells ((T.take (i + 1)).filterMap (look (factsOf fs))))) := by
        show World.ownsRow _ _ _ _ _ _ _
        rw [HSN.out]
        have e : ∀ (l : List KFact) (x : KFact), factCells (l ++ [x]) = factCells l ++ x.cells := fun l x => by unfold factCells; rw [List.flatMap_append]; simp
        rw [e]
        exact h1
       have t1 : w6.cell? ⟨rb, 1, none⟩ = some (.slice A i c) := HX6.out.cell rfl
       have z1 := HX6.out.frozen 1
       clear h1 h2 hlk b0 b1 ct
       go_wp2
       go_roundg (T.length - (i + 1))
       case measure => rw [HG2.out]; omega
       case rel =>
        refine ⟨i + 1, _, _, rfl, by omega, by go_num, HX6.out.set (i := 1) (by simp) _, ownsRow_set HR6.out (fun e => by simp only [Value.ownBlock, Option.some.injEq] at e; omega) _, ?_⟩
        exact (HU.out.trans HU6.out (fun k hk h => by omega)).setCell (.inl rfl) _
     · obtain rfl : i = T.length := by omega
       have HFT : Hid ((T.take T.length).filterMap (look (factsOf fs)) = joinedF (factsOf fs)) := by show _ = _; rw [List.take_length, HT.out]; rfl
       rw [HFT.out] at HRow
       have HTL : Hid (T.length = (joinedF (factsOf fs)).length) := by show _ = _; rw [joinedF_len, HT.out]
       rw [HTL.out] at HRow HX
       have HJw : Hid (JAt W3 mf mo (factsOf fs) (ordersOf fs) sm wr) := HJ3.out.turn HU.out (by omega) (by omega) (fun k hk e => by omega)
       have HRw : Hid (Own wr 34 w.heap.size [.int .i64 0, .slice none 0 0, .slice none 0 0]) := HR3.out.keep HU.out (by omega)
       have hsz3 := HU.out.size
       obtain ⟨nO, hnO, hmo⟩ := HJw.out.o
       have HKY := Lib.hid (keysB_any mo wr)
       have HSO := Lib.hid (sortedFuncB_any hmo (by have := HOL.out; omega))
       clear hmo hnO HFT HT HTIN HAT HTB hil htl
       go_wp2_with (first | (go_at_call 41; refine HKY.out.mono ?_; rintro e z0 ⟨rfl, rfl⟩) | (go_at_call 40; refine HSO.out.mono ?_; rintro e Z5 ⟨OO, OA, oc, rfl, hAt, hOB, hb, hOP, hOI, hOM⟩; refine Hid.out ?_))
       refine Lib.hid ?_
       have hb5 : Below wr.heap.size wr Z5 := Below.step (Below.alloc' (Below.refl _ _) _) hb
       have HOO : Hid (OrdersOf (ordersOf fs) OO) := ⟨hOP, fun x => by
        have hin : x ∈ ordersOf fs → InB x := fun h => by
         obtain ⟨⟨y, hy, e1⟩, u, hu, e2⟩ := HK.out x h
         exact ⟨e1 ▸ HR.out y hy, e2 ▸ HR.out u hu⟩
        have hh : (hasV (ordersOf fs) x).isSome = true ↔ x ∈ ordersOf fs := by unfold hasV; split <;> simp [*]
        constructor
        · exact fun h => hh.1 ((hOM x (hOI x h)).1 h)
        · exact fun h => (hOM x (hin h)).2 (hh.2 h)⟩
       have HAT := Lib.hid hAt; clear hAt
       have HOB : Hid (∀ b off, OA = some ⟨b, off, none⟩ → wr.heap.size < b) := fun b off e => by have h := hOB b off e; rw [World.size_alloc] at h; omega
       have HGW : Hid (∀ k, (Value.slice A (joinedF (factsOf fs)).length c).ownBlock = some k → k < wr.heap.size) := fun k e => (HRow.out.lt k e).2
       have HX5 := Lib.hid (HX.out.below hb5)
       have HJ5 := Lib.hid (HJw.out.on hb5)
       have HR5 := Lib.hid (HRw.out.below hb5)
       have HRow5 := Lib.hid (ownsRow_belowX HRow.out hb5)
       have hs5 := hb5.size
       have t2 : Z5.cell? ⟨rb, 2, none⟩ = some (.slice none 0 0) := HX5.out.cell rfl
       have z2 := HX5.out.frozen 2
       clear hb hOP hOI hOM hOB hb5 HX HJw HRw HKY HSO HRow
       go_upto_region 34 with (fail)
       obtain ⟨Z6, HZ6⟩ : ∃ Z6, Hid (Z6 = Z5.setCell ⟨rb, 2, none⟩ (.slice OA OO.length oc)) := ⟨_, rfl⟩
       rw [← HZ6.out]
       have hu6 : Upd (fun k => k = rb) Z5 Z6 := by rw [HZ6.out]; exact (Upd.refl (fun k => k = rb) Z5).setCell (.inl rfl) _
       have HX6 : Hid (Own Z6 34 rb [.int .i64 f0.house, .slice A (joinedF (factsOf fs)).length c, .slice OA OO.length oc]) := by
        show Own _ _ _ _
        rw [HZ6.out]
        exact HX5.out.set (i := 2) (by simp) _
       have HJ6 : Hid (JAt W3 mf mo (factsOf fs) (ordersOf fs) sm Z6) := HJ5.out.turn hu6 (by omega) (by omega) (fun k hk e => by omega)
       have HR6 : Hid (Own Z6 34 w.heap.size [.int .i64 0, .slice none 0 0, .slice none 0 0]) := HR5.out.keep hu6 (by omega)
       have HO6 : Hid (At Z6 2 OA OO.length oc (befCells OO)) := updAt HAT.out (by omega) hu6 (fun b off e h => by have := HOB.out b off e; omega)
       have HRow6 : Hid (Z6.ownsRow Z3.heap.size 50 6 (.slice A (joinedF (factsOf fs)).length c) (joinedF (factsOf fs)).length (factCells (joinedF (factsOf fs)))) := by
        show World.ownsRow _ _ _ _ _ _ _
        rw [HZ6.out]
        exact ownsRow_set HRow5.out (fun e => by have := (HRow5.out.lt _ e).1; simp only at this; omega) _
       have hs6 := hu6.size
       have HBW6 : Hid (Below w.heap.size w Z6) := HBU.out Z6 HJ6.out.upd
       clear HZ6 hu6 HX5 HJ5 HR5 HAT HRow5 t2 z2
       have r0 : Z6.cell? ⟨w.heap.size, 0, none⟩ = some (.int .i64 0) := HR6.out.cell rfl
       have r1 : Z6.cell? ⟨w.heap.size, 1, none⟩ = some (.slice none 0 0) := HR6.out.cell rfl
       have r2 : Z6.cell? ⟨w.heap.size, 2, none⟩ = some (.slice none 0 0) := HR6.out.cell rfl
       have y0 := HR6.out.frozen 0
       have y1 := HR6.out.frozen 1
       have y2 := HR6.out.frozen 2
       cases sm with
       | false =>
        have HEV : Hid (Evid (factsOf fs) (ordersOf fs)) := .inl (fun h => by have := HJ6.out.same.2 h; cases this)
        go_wp2
        obtain ⟨Wf, HWf⟩ : ∃ Wf, Hid (Wf = ((Z6.setCell ⟨w.heap.size, 0, none⟩ (.int .i64 0)).setCell ⟨w.heap.size, 1, none⟩ (.slice none 0 0)).setCell ⟨w.heap.size, 2, none⟩ (.slice none 0 0)) := ⟨_, rfl⟩
        rw [← HWf.out]
        have hRf : Own Wf 34 w.heap.size [.int .i64 0, .slice none 0 0, .slice none 0 0] := by
         rw [HWf.out]
         exact ((HR6.out.set (i := 0) (by simp) _).set (i := 1) (by simp) _).set (i := 2) (by simp) _
        have hUf : Upd (fun k => k = w.heap.size) Z6 Wf := by rw [HWf.out]; exact (((Upd.refl (fun k => k = w.heap.size) _).setCell (.inl rfl) _).setCell (.inl rfl) _).setCell (.inl rfl) _
        have d0 : Wf.cell? ⟨w.heap.size, 0, none⟩ = some (.int .i64 0) := hRf.cell rfl
        have d1 : Wf.cell? ⟨w.heap.size, 1, none⟩ = some (.slice none 0 0) := hRf.cell rfl
        have d2 : Wf.cell? ⟨w.heap.size, 2, none⟩ = some (.slice none 0 0) := hRf.cell rfl
        refine bodyPost_ret (v := .tuple #[.agg #[.int .i64 0, .slice none 0 0, .slice none 0 0], .int .i64 23]) (by simp [results, Tryz.results27, go_sem, d0, d1, d2]) rfl ⟨0, [], [], 23, none, 0, none, 0, rfl, ⟨at_nilX _ _, at_nilX _ _⟩, ⟨fun b off e => (by cases e), fun b off e => (by cases e)⟩, HBW6.out.trans (hUf.below HBW6.out.size (fun k hk => by omega)), .inr ⟨rfl, rfl, rfl, rfl, HEV.out⟩⟩
       | true =>
        obtain ⟨fk, hOF, hfl2, hfw, hfr, hfo⟩ : ∃ fk, OwnF Z6 A fk (joinedF (factsOf fs)) ∧ fk < Z6.heap.size ∧ w.heap.size < fk ∧ fk ≠ rb ∧ ∀ b off, OA = some ⟨b, off, none⟩ → b ≠ fk := by
         rcases own_of_row HRow6.out with ⟨h1, h2, h3⟩ | ⟨g, h1, h2, h3⟩
         · exact ⟨mf, .inl (List.eq_nil_of_length_eq_zero h1), by omega, hmw, by omega, fun b off e => by have := HOB.out b off e; omega⟩
         · refine ⟨g, .inr ⟨h1, h3⟩, h3.lt, by omega, by omega, fun b off e => ?_⟩
           have h4 := HOB.out b off e
           have h5 := HGW.out g (by rw [h1]; rfl)
           omega
        have hFA : FileAt Z6 ⟨⟨A, c⟩, ⟨OA, oc⟩⟩ ⟨f0.house, joinedF (factsOf fs), OO⟩ := ⟨by
         obtain ⟨A', c', e, h, _⟩ := ownsRow_atB HRow6.out (factCells_one _)
         simp only [Value.slice.injEq] at e
         rw [e.1, e.2.2]
         exact h, HO6.out⟩
        have hjl : (joinedF (factsOf fs)).length ≤ 4000 := by rw [joinedF_len]; exact Nat.le_trans (keysOf_len _) HLL.out
        have hol2 : OO.length ≤ 4000 := Nat.le_trans (orders_len HOO.out) HOL.out
        have HKN : Hid (Known (joinedF (factsOf fs)) OO) := HK.out.known HOO.out
        have HTI := Lib.hid (tighten_any A c fk OA oc f0.house (joinedF (factsOf fs)) OO Z6 hFA hOF hfl2 (fun x hx => by
         obtain ⟨y, hy, e, _⟩ := (joinedF_mem hx).act
         rw [← e]; exact HR.out y hy) (joinedF_distinct _) hjl hol2 HKN.out)
        have HSM : Hid (SameP (factsOf fs)) := HJ6.out.same.1 rfl
        have v0 : Z6.cell? ⟨rb, 0, none⟩ = some (.int .i64 f0.house) := HX6.out.cell rfl
        have v1 : Z6.cell? ⟨rb, 1, none⟩ = some (.slice A (joinedF (factsOf fs)).length c) := HX6.out.cell rfl
        have v2 : Z6.cell? ⟨rb, 2, none⟩ = some (.slice OA OO.length oc) := HX6.out.cell rfl
        have HCB : Hid ((A = none → (joinedF (factsOf fs)).length = 0 ∧ c = 0) ∧ (joinedF (factsOf fs)).length ≤ c ∧ c ≤ maxLen) := hFA.facts.2
        have HAB : Hid (∀ b off, A = some ⟨b, off, none⟩ → w.heap.size ≤ b) := fun b off e => by
         have h := (HRow6.out.lt b (by rw [e]; rfl)).1
         omega
        clear hFA hOF HJ6 HRow6
        go_wp2_with (go_at_call 45; refine HTI.out.mono ?_; rintro e z ⟨T', rfl, hti, hof, huz⟩; refine Hid.out ?_)
        refine Lib.hid ?_
        have HRz := Lib.hid (HR6.out.keep huz (by omega))
        have HXz := Lib.hid (HX6.out.keep huz (fun e => hfr e.symm))
        have HOz : Hid (At z 2 OA OO.length oc (befCells OO)) := updAt HO6.out (by omega) huz hfo
        have HBWz : Hid (Below w.heap.size w z) := HBW6.out.trans (huz.below HBW6.out.size (fun k hk => by omega))
        have HTG := Lib.hid hti
        have HOF := Lib.hid hof
        have htl2 := tight_len hti
        have r0 : z.cell? ⟨w.heap.size, 0, none⟩ = some (.int .i64 0) := HRz.out.cell rfl
        have r1 : z.cell? ⟨w.heap.size, 1, none⟩ = some (.slice none 0 0) := HRz.out.cell rfl
        have r2 : z.cell? ⟨w.heap.size, 2, none⟩ = some (.slice none 0 0) := HRz.out.cell rfl
        have y0 := HRz.out.frozen 0
        have y1 := HRz.out.frozen 1
        have y2 := HRz.out.frozen 2
        have v0' : z.cell? ⟨rb, 0, none⟩ = some (.int .i64 f0.house) := HXz.out.cell rfl
        have v1' : z.cell? ⟨rb, 1, none⟩ = some (.slice A (joinedF (factsOf fs)).length c) := HXz.out.cell rfl
        have v2' : z.cell? ⟨rb, 2, none⟩ = some (.slice OA OO.length oc) := HXz.out.cell rfl
        clear hti hof huz v0 v1 v2 HTI
        cases hb : allFine T' with
        | false =>
         have HEV : Hid (Evid (factsOf fs) (ordersOf fs)) := .inr ⟨T', OO, HOO.out, HTG.out, by
          unfold allFine at hb
          rw [List.all_eq_false] at hb
          obtain ⟨t, ht, hlt⟩ := hb
          exact ⟨t, ht, by simpa using hlt⟩⟩
         clear hb
         go_wp2
         obtain ⟨Wf, HWf⟩ : ∃ Wf, Hid (Wf = ((z.setCell ⟨w.heap.size, 0, none⟩ (.int .i64 0)).setCell ⟨w.heap.size, 1, none⟩ (.slice none 0 0)).setCell ⟨w.heap.size, 2, none⟩ (.slice none 0 0)) := ⟨_, rfl⟩
         rw [← HWf.out]
         have hRf : Own Wf 34 w.heap.size [.int .i64 0, .slice none 0 0, .slice none 0 0] := by
          rw [HWf.out]
          exact ((HRz.out.set (i := 0) (by simp) _).set (i := 1) (by simp) _).set (i := 2) (by simp) _
         have hUf : Upd (fun k => k = w.heap.size) z Wf := by rw [HWf.out]; exact (((Upd.refl (fun k => k = w.heap.size) _).setCell (.inl rfl) _).setCell (.inl rfl) _).setCell (.inl rfl) _
         have d0 : Wf.cell? ⟨w.heap.size, 0, none⟩ = some (.int .i64 0) := hRf.cell rfl
         have d1 : Wf.cell? ⟨w.heap.size, 1, none⟩ = some (.slice none 0 0) := hRf.cell rfl
         have d2 : Wf.cell? ⟨w.heap.size, 2, none⟩ = some (.slice none 0 0) := hRf.cell rfl
         refine bodyPost_ret (v := .tuple #[.agg #[.int .i64 0, .slice none 0 0, .slice none 0 0], .int .i64 23]) (by simp [results, Tryz.results27, go_sem, d0, d1, d2]) rfl ⟨0, [], [], 23, none, 0, none, 0, rfl, ⟨at_nilX _ _, at_nilX _ _⟩, ⟨fun b off e => (by cases e), fun b off e => (by cases e)⟩, HBWz.out.trans (hUf.below HBWz.out.size (fun k hk => by omega)), .inr ⟨rfl, rfl, rfl, rfl, HEV.out⟩⟩
        | true =>
         have HFI : Hid (Fine (factsOf fs) (ordersOf fs) T' OO) := ⟨HSM.out, HOO.out, HTG.out, allFine_iff.1 hb⟩
         clear hb
         go_wp2
         obtain ⟨Wf, HWf⟩ : ∃ Wf, Hid (Wf = ((z.setCell ⟨w.heap.size, 0, none⟩ (.int .i64 f0.house)).setCell ⟨w.heap.size, 1, none⟩ (.slice A (joinedF (factsOf fs)).length c)).setCell ⟨w.heap.size, 2, none⟩ (.slice OA OO.length oc)) := ⟨_, rfl⟩
         rw [← HWf.out]
         have hRf : Own Wf 34 w.heap.size [.int .i64 f0.house, .slice A (joinedF (factsOf fs)).length c, .slice OA OO.length oc] := by
          rw [HWf.out]
          exact ((HRz.out.set (i := 0) (by simp) _).set (i := 1) (by simp) _).set (i := 2) (by simp) _
         have hUf : Upd (fun k => k = w.heap.size) z Wf := by rw [HWf.out]; exact (((Upd.refl (fun k => k = w.heap.size) _).setCell (.inl rfl) _).setCell (.inl rfl) _).setCell (.inl rfl) _
         have d0 : Wf.cell? ⟨w.heap.size, 0, none⟩ = some (.int .i64 f0.house) := hRf.cell rfl
         have d1 : Wf.cell? ⟨w.heap.size, 1, none⟩ = some (.slice A (joinedF (factsOf fs)).length c) := hRf.cell rfl
         have d2 : Wf.cell? ⟨w.heap.size, 2, none⟩ = some (.slice OA OO.length oc) := hRf.cell rfl
         refine bodyPost_ret (v := .tuple #[.agg #[.int .i64 f0.house, .slice A (joinedF (factsOf fs)).length c, .slice OA OO.length oc], .int .i64 0]) (by simp [results, Tryz.results27, go_sem, d0, d1, d2]) rfl ⟨f0.house, T', OO, 0, A, c, OA, oc, by rw [htl2], ⟨?_, updAt HOz.out (by omega) hUf (fun b off e h => ?_)⟩, ⟨HAB.out, fun b off e => by have := HOB.out b off e; omega⟩, HBWz.out.trans (hUf.below HBWz.out.size (fun k hk => by omega)), .inl ⟨rfl, rfl, HFI.out⟩⟩
         · obtain ⟨hc1, hc2, hc3⟩ := HCB.out
           rcases HOF.out with rfl | ⟨h1, h2⟩
           · exact ⟨⟨rfl, fun u hu => (by cases hu), fun h => absurd h (Nat.lt_irrefl _)⟩, fun e => ⟨rfl, (hc1 e).2⟩, Nat.zero_le _, hc3⟩
           · subst h1
             exact (h2.keep hUf (fun e => by omega)).toAt (factCells_len _) (factCells_one _) (Nat.le_trans (Nat.le_of_eq htl2) hc2) hc3
         · have := HOB.out b off e; omega
end Go.Proofs.YtahhdjeclbagnaaGreatDoor
