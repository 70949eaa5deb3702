/-
  Clo
-/
import Derived.Test.YtaielhafpmjkaaaGreatDoorQ30
namespace Go.Proofs.YtaielhafpmjkaaaGreatDoor
open Go.RowKit Go.Shelf Go.Sort
def CloPost (B : Nat) (C : KCon) (p : Int) (l : List KState) (w : World) (e : Ending) (w' : World) : Prop :=
 Below w.heap.size w w' ∧ ((∃ (r : List KState) (A : Option Addr) (c : Nat), e = .returned (.tuple #[.slice A r.length c, .int .i64 0]) ∧ StatesN B w' ⟨A, c⟩ r ∧ IsClo C p l r) ∨ (e = .returned (.tuple #[.slice none 0 0, .int .i64 3]) ∧ TooMany C p l))
set_option maxRecDepth 100000 in
set_option maxHeartbeats 4000000 in
theorem closure_any {B : Nat} (v : CV) (C : KCon) (p : Int) (sl : SV) (l : List KState) (w : World) (hC : ConAt w v C) (hL : StatesN B w sl l) (hBw : B ≤ w.heap.size) (hO : ∀ s ∈ l, StateOk C s) (hT : Tab w) (hl : l.length ≤ 1000) :
 Calls Tryz.prog 56 #[v.val C, .int .i64 p, .slice sl.A l.length sl.c] w (CloPost B C p l w) := by
 obtain ⟨⟨vhA, vhc⟩, ⟨vuA, vuc⟩, ⟨vaA, vac⟩, ⟨vkA, vkc⟩, ⟨voA, voc⟩⟩ := v
 obtain ⟨slA, slc⟩ := sl
 have HC := Lib.hid hC; clear hC
 have HL := Lib.hid hL; clear hL
 have HO := Lib.hid hO; clear hO
 have HT := Lib.hid hT; clear hT
 simp only [CV.val, CV.cells]
 have hmm := @run_makeMap Tryz.prog
 go_enter Tryz.func56, Tryz.ntmps56
 go_wp2
 go_step3
 go_upto_region 2 with (fail)
 obtain ⟨Wm, HWm⟩ : ∃ Wm, Hid (Wm = ((((w.alloc (.cells #[.int .i64 C.parties, .slice vhA C.holders.length vhc, .slice vuA C.units.length vuc, .slice vaA C.acts.length vac, .slice vkA C.clauses.length vkc, .int .i64 C.days, .slice voA C.off.length voc] 27)).alloc (.map #[] 0)).alloc (.map #[] 0)).alloc (.cells #[.map (some (w.heap.size + 1))] 111)).alloc (.cells #[.map (some (w.heap.size + 1 + 1))] 111)) := ⟨_, rfl⟩
 rw [← HWm.out]
 obtain ⟨cg, hcg⟩ : ∃ cg, cg = w.heap.size + 1 + 1 + 1 + 1 := ⟨_, rfl⟩
 obtain ⟨cf, hcf⟩ : ∃ cf, cf = w.heap.size + 1 + 1 + 1 := ⟨_, rfl⟩
 obtain ⟨bg, hbg⟩ : ∃ bg, bg = w.heap.size + 1 + 1 := ⟨_, rfl⟩
 obtain ⟨bf, hbf⟩ : ∃ bf, bf = w.heap.size + 1 := ⟨_, rfl⟩
 rw [← hcg, ← hcf, ← hbg, ← hbf]
 rw [← hbg, ← hbf] at HWm
 have HBm : Hid (Below w.heap.size w Wm) := by
  show Below _ _ _
  rw [HWm.out]
  exact Below.alloc' (Below.alloc' (Below.alloc' (Below.alloc' (Below.alloc' (Below.refl _ _) _) _) _) _) _
 have hfm : SetAt B Wm bf [] := by
  have h := SetAt.made B (w.alloc (.cells #[.int .i64 C.parties, .slice vhA C.holders.length vhc, .slice vuA C.units.length vuc, .slice vaA C.acts.length vac, .slice vkA C.clauses.length vkc, .int .i64 C.days, .slice voA C.off.length voc] 27))
  rw [World.size_alloc, ← hbf] at h
  rw [HWm.out]
  exact h.below (Below.alloc' (Below.alloc' (Below.alloc' (Below.refl _ _) _) _) _)
 have hgm : SetAt B Wm bg [] := by
  have h := SetAt.made B ((w.alloc (.cells #[.int .i64 C.parties, .slice vhA C.holders.length vhc, .slice vuA C.units.length vuc, .slice vaA C.acts.length vac, .slice vkA C.clauses.length vkc, .int .i64 C.days, .slice voA C.off.length voc] 27)).alloc (.map #[] 0))
  rw [World.size_alloc, World.size_alloc, ← hbg] at h
  rw [HWm.out]
  exact h.below (Below.alloc' (Below.alloc' (Below.refl _ _) _) _)
 have hfc : Wm.cell? ⟨cf, 0, none⟩ = some (.map (some bf)) := by
  have h : Wm.heap[cf]? = some (.cells #[.map (some bf)] 111 (0, 0)) := by
   rw [HWm.out]
   refine (Below.heap_alloc _ _ _ (by simp; omega)).trans ?_
   have h := heap_alloc_new (((w.alloc (.cells #[.int .i64 C.parties, .slice vhA C.holders.length vhc, .slice vuA C.units.length vuc, .slice vaA C.acts.length vac, .slice vkA C.clauses.length vkc, .int .i64 C.days, .slice voA C.off.length voc] 27)).alloc (.map #[] 0)).alloc (.map #[] 0)) (.cells #[.map (some bf)] 111)
   rw [World.size_alloc, World.size_alloc, World.size_alloc, ← hcf] at h
   exact h
  exact (cell_of_row Wm _ 0 _ _ _ h).trans rfl
 have hgc : Wm.cell? ⟨cg, 0, none⟩ = some (.map (some bg)) := by
  have h : Wm.heap[cg]? = some (.cells #[.map (some bg)] 111 (0, 0)) := by
   rw [HWm.out]
   have h := heap_alloc_new ((((w.alloc (.cells #[.int .i64 C.parties, .slice vhA C.holders.length vhc, .slice vuA C.units.length vuc, .slice vaA C.acts.length vac, .slice vkA C.clauses.length vkc, .int .i64 C.days, .slice voA C.off.length voc] 27)).alloc (.map #[] 0)).alloc (.map #[] 0)).alloc (.cells #[.map (some bf)] 111)) (.cells #[.map (some bg)] 111)
   rw [World.size_alloc, World.size_alloc, World.size_alloc, World.size_alloc, ← hcg] at h
   exact h
  exact (cell_of_row Wm _ 0 _ _ _ h).trans rfl
 have hcb : Wm.heap[w.heap.size]? = some (.cells #[.int .i64 C.parties, .slice vhA C.holders.length vhc, .slice vuA C.units.length vuc, .slice vaA C.acts.length vac, .slice vkA C.clauses.length vkc, .int .i64 C.days, .slice voA C.off.length voc] 27 (0, 0)) := by
  rw [HWm.out]
  refine (Below.heap_alloc _ _ _ (by simp; omega)).trans ((Below.heap_alloc _ _ _ (by simp; omega)).trans ((Below.heap_alloc _ _ _ (by simp; omega)).trans ((Below.heap_alloc _ _ _ (by simp)).trans ?_)))
  exact heap_alloc_new w _
 have hc0 : Wm.cell? ⟨w.heap.size, 0, none⟩ = some (.int .i64 C.parties) := (cell_of_row Wm _ 0 _ _ _ hcb).trans rfl
 have hc1 : Wm.cell? ⟨w.heap.size, 1, none⟩ = some (.slice vhA C.holders.length vhc) := (cell_of_row Wm _ 1 _ _ _ hcb).trans rfl
 have hc2 : Wm.cell? ⟨w.heap.size, 2, none⟩ = some (.slice vuA C.units.length vuc) := (cell_of_row Wm _ 2 _ _ _ hcb).trans rfl
 have hc3 : Wm.cell? ⟨w.heap.size, 3, none⟩ = some (.slice vaA C.acts.length vac) := (cell_of_row Wm _ 3 _ _ _ hcb).trans rfl
 have hc4 : Wm.cell? ⟨w.heap.size, 4, none⟩ = some (.slice vkA C.clauses.length vkc) := (cell_of_row Wm _ 4 _ _ _ hcb).trans rfl
 have hc5 : Wm.cell? ⟨w.heap.size, 5, none⟩ = some (.int .i64 C.days) := (cell_of_row Wm _ 5 _ _ _ hcb).trans rfl
 have hc6 : Wm.cell? ⟨w.heap.size, 6, none⟩ = some (.slice voA C.off.length voc) := (cell_of_row Wm _ 6 _ _ _ hcb).trans rfl
 have hne : bf ≠ bg := by omega
 have hbfl : w.heap.size ≤ bf := by omega
 have hbgl : w.heap.size ≤ bg := by omega
 have HSM : Hid (∀ k, (k = bf ∨ k = bg) → MapBlk Wm k) := fun k hk => by
  rcases hk with rfl | rfl
  · exact hfm.blk
  · exact hgm.blk
 have HFC := Lib.hid hfc; clear hfc
 have HGC := Lib.hid hgc; clear hgc
 have HC0 := Lib.hid hc0; clear hc0
 have HC1 := Lib.hid hc1; clear hc1
 have HC2 := Lib.hid hc2; clear hc2
 have HC3 := Lib.hid hc3; clear hc3
 have HC4 := Lib.hid hc4; clear hc4
 have HC5 := Lib.hid hc5; clear hc5
 have HC6 := Lib.hid hc6; clear hc6
 have HFM := Lib.hid hfm; clear hfm
 have HGM := Lib.hid hgm; clear hgm
 have HCM : Hid (ConAt Wm (⟨⟨vhA, vhc⟩, ⟨vuA, vuc⟩, ⟨vaA, vac⟩, ⟨vkA, vkc⟩, ⟨voA, voc⟩⟩ : CV) C) := HC.out.below HBm.out
 have HLM : Hid (StatesN B Wm ⟨slA, slc⟩ l) := HL.out.below HBm.out
 have HTM : Hid (Tab Wm) := HT.out.below HBm.out
 have HBW : Hid (∀ x, Upd (fun k => k = bf ∨ k = bg) Wm x → Below w.heap.size w x) := fun x hx => HBm.out.trans (hx.below HBm.out.size (fun k hk => by omega))
 clear hcb hbf hbg hcf hcg HWm hmm
 go_wp2
 go_loopw [29] (fun i wr => ∃ (k : Nat) (F : List KState), k ≤ l.length ∧ i = .int .i64 k ∧ Hid (Upd (fun k => k = bf ∨ k = bg) Wm wr) ∧ Hid (SetAt B wr bf F) ∧ Hid (SetAt B wr bg F) ∧ Hid (Inv C p l F F [] ∧ F.length ≤ k ∧ ∀ s ∈ l.take k, s ∈ F)) (fun i _ => l.length - (intOf i).toNat)
 case atStart => exact ⟨0, [], Nat.zero_le _, rfl, Upd.refl _ _, HFM, HGM, Inv.start C p l, Nat.le_refl _, by simp⟩
 case round =>
  obtain ⟨k, F, hk, rfl, HU, HF, HG, HI⟩ := hrel
  by_cases hlt : k < l.length
  · obtain ⟨s, hs⟩ : ∃ s, l[k]? = some s := ⟨_, List.getElem?_eq_getElem hlt⟩
    have hsl := List.mem_of_getElem? hs
    have hsO := HO.out s hsl
    obtain ⟨lb, loff, hA, hlb, hst⟩ := (HLM.out.upd HU.out HSM.out).form (by omega)
    simp only at hA
    subst hA
    obtain ⟨⟨⟨thA, thc⟩, ⟨tuA, tuc⟩, ⟨tmA, tmc⟩⟩, ⟨hstate, hnt⟩, hcell⟩ := hst k s hs
    have HNT := Lib.hid hnt; clear hnt
    have hcl := hcell wr (Below.refl _ _)
    obtain ⟨c0, c1, c2, c3⟩ := rw4 hcl rfl
    have HSO := Lib.hid hsO; clear hsO
    have HST := Lib.hid hstate; clear hstate hst hcell hcl
    have HTK : Hid (l.take (k + 1) = l.take k ++ [s]) := take_snoc' hs
    have HSL := Lib.hid hsl; clear hsl hs
    have k0 : (0 : Int) ≤ (k : Int) := by omega
    have k1 : (k : Int) < (l.length : Int) := by omega
    go_upto_region 6 with (fail)
    obtain ⟨Wa, HWa⟩ : ∃ Wa, Hid (Wa = wr.alloc (.cells #[.int .i64 s.day, .slice thA s.holders.length thc, .slice tuA s.used.length tuc, .slice tmA s.marks.length tmc] 43)) := ⟨_, rfl⟩
    rw [← HWa.out]
    have hba : Below wr.heap.size wr Wa := by rw [HWa.out]; exact Below.alloc' (Below.refl _ _) _
    have hax : Wa.heap[wr.heap.size]? = some (.cells #[.int .i64 s.day, .slice thA s.holders.length thc, .slice tuA s.used.length tuc, .slice tmA s.marks.length tmc] 43 (0, 0)) := by rw [HWa.out]; exact heap_alloc_new wr _
    have d0 : Wa.cell? ⟨wr.heap.size, 0, none⟩ = some (.int .i64 s.day) := (cell_of_row Wa _ 0 _ _ _ hax).trans rfl
    have d1 : Wa.cell? ⟨wr.heap.size, 1, none⟩ = some (.slice thA s.holders.length thc) := (cell_of_row Wa _ 1 _ _ _ hax).trans rfl
    have d2 : Wa.cell? ⟨wr.heap.size, 2, none⟩ = some (.slice tuA s.used.length tuc) := (cell_of_row Wa _ 2 _ _ _ hax).trans rfl
    have d3 : Wa.cell? ⟨wr.heap.size, 3, none⟩ = some (.slice tmA s.marks.length tmc) := (cell_of_row Wa _ 3 _ _ _ hax).trans rfl
    have HUa : Hid (Upd (fun k => k = bf ∨ k = bg) Wm Wa) := HU.out.on hba
    have HFl := HI.out.2.1
    have HM : Hid (Calls Tryz.prog 80 #[.agg #[.int .i64 s.day, .slice thA s.holders.length thc, .slice tuA s.used.length tuc, .slice tmA s.marks.length tmc], .pointer (some ⟨cf, 0, none⟩), .pointer (some ⟨cg, 0, none⟩)] Wa (MeetPost B bf bg F F s Wa)) :=
     meet_any ⟨⟨thA, thc⟩, ⟨tuA, tuc⟩, ⟨tmA, tmc⟩⟩ s cf cg bf bg F F Wa (HST.out.below hba) HNT.out HSO.out.ranged (HTM.out.upd HUa.out HSM.out) (HF.out.below hba) (HG.out.below hba) (HUa.out.cellM HSM.out HFC.out) (HUa.out.cellM HSM.out HGC.out) hne (by omega) (by omega) (fun h => h)
    clear c0 c1 c2 c3 hax hba
    go_wp2_with (go_at_call 80; refine HM.out.mono ?_; rintro e z ⟨rfl, h1, h2, h3⟩; refine Hid.out ?_)
    refine Lib.hid ?_
    have HUz : Hid (Upd (fun k => k = bf ∨ k = bg) Wm z) := HUa.out.trans h1 (fun _ _ h => h)
    have HFz := Lib.hid h2
    have HGz : Hid (SetAt B z bg (metF F s)) := h3
    have HIz : Hid (Inv C p l (metF F s) (metF F s) [] ∧ (metF F s).length ≤ k + 1 ∧ ∀ x ∈ l.take (k + 1), x ∈ metF F s) := by
     refine ⟨HI.out.1.meet HSO.out (.base HSL.out), ?_, fun x hx => ?_⟩
     · have := (met_len F F s 0 (by omega)).2.1; omega
     · rw [HTK.out] at hx
       rcases List.mem_append.1 hx with hx | hx
       · exact metF_mem.2 (.inl (HI.out.2.2 x hx))
       · rw [List.mem_singleton] at hx; exact metF_mem.2 (.inr hx)
    clear h1 h2 h3
    go_wp2
    go_roundw
    case rel => exact ⟨k + 1, metF F s, by omega, by go_num, HUz, HFz, HGz, HIz⟩
    case measure => simp [intOf]; omega
  · obtain rfl : k = l.length := by omega
    go_wp2
    go_step3
    go_wp2
    have HI0 : Hid (Inv C p l F F [] ∧ ∀ s ∈ l, s ∈ F) := ⟨HI.out.1, fun s hs => HI.out.2.2 s (by rw [List.take_length]; exact hs)⟩
    have hF0 := HI.out.2.1
    go_loopg [13] (l.length + 401) (fun gk v13 w2 => ∃ (F G : List KState) (d : Nat), gk = l.length + 401 - d ∧ v13 = .int .i64 0 ∧ Hid (F.length = G.length + d) ∧ F.length ≤ l.length + 400 ∧ Hid (Upd (fun k => k = bf ∨ k = bg) Wm w2) ∧ Hid (SetAt B w2 bf F) ∧ Hid (SetAt B w2 bg G) ∧ Hid (Inv C p l F G [] ∧ ∀ s ∈ l, s ∈ F))
    case atStart => exact ⟨F, F, 0, rfl, rfl, rfl, by omega, HU, HF, HG, HI0⟩
    case round =>
     clear HU HF HG HI HI0 hF0 F
     obtain ⟨F, G, d, hgk, rfl, HFG, hFl, HU, HF, HG, HI⟩ := hrel
     have HGK := Lib.hid hgk; clear hgk
     have yf := HU.out.cellM HSM.out HFC.out
     have yg := HU.out.cellM HSM.out HGC.out
     have hlg : ∀ ty, (Builtin.len_ #[111] ty #[.map (some bg)]).run Tryz.prog wr = .ok (.int .i64 (G.length : Nat)) wr := fun ty => HG.out.len ty
     by_cases hg0 : 0 < G.length
     · have hGl : G.length ≤ 2000 := by have := HFG.out; omega
       have HKY := Lib.hid (keys_any bg wr)
       have HSO := Lib.hid (sorted_any HG.out (by omega))
       go_wp2_with (first | (go_at_call 82; refine HKY.out.mono ?_; rintro e z0 ⟨rfl, rfl⟩) | (go_at_call 81; refine HSO.out.mono ?_; rintro e Z3 ⟨T, TA, tc, rfl, hAt, hb, hperm, hsort⟩; refine Hid.out ?_))
       refine Lib.hid ?_
       have hb0 : Below wr.heap.size wr Z3 := Below.step (Below.alloc' (Below.refl _ _) _) hb
       have HU3 : Hid (Upd (fun k => k = bf ∨ k = bg) Wm Z3) := HU.out.on hb0
       have HF3 := Lib.hid (HF.out.below hb0)
       have HG3 := Lib.hid (HG.out.below hb0)
       have HTL : Hid (T.length = G.length) := by show _ = _; rw [hperm.length_eq, List.length_map]
       have HND : Hid T.Nodup := hperm.nodup_iff.2 HG.out.nodup
       have HRM : Hid (∀ (i : Nat) (t : List UInt8), 0 ≤ i → T[i]? = some t → ∃ s ∈ G, s.text = t) := fun i t _ ht => by
        have := hperm.mem_iff.1 (List.mem_of_getElem? ht)
        exact List.mem_map.1 this
       have ht0 : 0 < T.length := by rw [HTL.out]; exact hg0
       have htl : T.length ≤ 2000 := by rw [HTL.out]; exact hGl
       obtain ⟨tb, toff, hTA, htb, htc⟩ := hAt.1.form ht0 (by omega)
       subst hTA
       have HAT := Lib.hid hAt
       have HSM3 : Hid (∀ k, (k = bf ∨ k = bg) → MapBlk Z3 k) := fun k hk => by
        rcases hk with rfl | rfl
        · exact HF3.out.blk
        · exact HG3.out.blk
       clear hAt hb hperm hsort hb0 htb htc HKY HSO yf yg hlg HU HF HG
       go_wp2
       go_loopg [44, 13] T.length (fun g3 v44 v13 w3 => ∃ (j : Nat) (F G : List KState), g3 = T.length - j ∧ j ≤ T.length ∧ v44 = .int .i64 j ∧ v13 = .int .i64 0 ∧ Hid (F.length = G.length + (d + j)) ∧ F.length ≤ l.length + 400 ∧ Hid (Upd (fun k => k = bf ∨ k = bg) Wm w3) ∧ Hid (SetAt B w3 bf F) ∧ Hid (SetAt B w3 bg G) ∧ Hid (Inv C p l F G [] ∧ ∀ s ∈ l, s ∈ F) ∧ Hid (∀ (i : Nat) (t : List UInt8), j ≤ i → T[i]? = some t → ∃ s ∈ G, s.text = t) ∧ Hid (Upd (fun k => k = bf ∨ k = bg) Z3 w3))
       case atStart => exact ⟨0, F, G, rfl, Nat.zero_le _, rfl, rfl, HFG, hFl, HU3, HF3, HG3, HI, HRM, Upd.refl _ _⟩
       case round =>
        clear HI HRM HFG hFl HU3 HF3 HG3 hg0 hGl F HTL
        obtain ⟨j, F, G, hg3, hj, rfl, rfl, HFG, hFl, HU, HF, HG, HI, HRM, HUZ⟩ := hrel
        have HG3 := Lib.hid hg3; clear hg3
        by_cases hlt : j < T.length
        · obtain ⟨tx, htx⟩ : ∃ tx, T[j]? = some tx := ⟨_, List.getElem?_eq_getElem hlt⟩
          obtain ⟨s, hsG, hst⟩ := HRM.out j tx (Nat.le_refl _) htx
          subst hst
          have hcT := (HAT.out.upd (by omega) HUZ.out HSM3.out).1
          obtain ⟨tb', toff', hTA', _, htc'⟩ := hcT.form ht0 (by omega)
          simp only [Option.some.injEq, Addr.mk.injEq, and_true] at hTA'
          obtain ⟨rfl, rfl⟩ := hTA'
          have ct : wr.cell? ⟨tb, toff + j, none⟩ = some (.string ⟨s.text.toArray⟩) := by
           rw [htc' j (by omega), List.getElem?_map, htx]
           rfl
          have hsO : StateOk C s := HI.out.1.ok s (HI.out.1.sub s hsG)
          have htm := text_max hsO.ranged
          have hsF := HI.out.1.sub s hsG
          have HSG := Lib.hid hsG; clear hsG
          have HSF := Lib.hid hsF; clear hsF
          have HSO := Lib.hid hsO; clear hsO
          have HTX := Lib.hid htx; clear htx
          have HTM2 := Lib.hid htm; clear htm
          have yf := HU.out.cellM HSM.out HFC.out
          have yg := HU.out.cellM HSM.out HGC.out
          have hlf : ∀ ty, (Builtin.len_ #[111] ty #[.map (some bf)]).run Tryz.prog wr = .ok (.int .i64 (F.length : Nat)) wr := fun ty => HF.out.len ty
          have j0 : (0 : Int) ≤ (j : Int) := by omega
          have j1 : (j : Int) < (T.length : Int) := by omega
          clear hcT htc'
          by_cases h300 : 300 < F.length
          · go_wp2
            rw [Exit.noGoto_ret]
            go_ret2
            exact ⟨HBW.out _ HU.out, .inr ⟨rfl, F, nodup_states HF.out.nodup, h300, HI.out.1.reach⟩⟩
          · obtain ⟨⟨⟨thA, thc⟩, ⟨tuA, tuc⟩, ⟨tmA, tmc⟩⟩, hrun, hstt, _⟩ := HG.out.look HSG.out HTM2.out
            simp only [TV.val, TV.cells, KState.cells] at hrun
            have HST := Lib.hid hstt; clear hstt
            go_upto_region 16 with (fail)
            obtain ⟨Wa, HWa⟩ : ∃ Wa, Hid (Wa = wr.alloc (.cells #[.int .i64 s.day, .slice thA s.holders.length thc, .slice tuA s.used.length tuc, .slice tmA s.marks.length tmc] 43)) := ⟨_, rfl⟩
            rw [← HWa.out]
            have hba : Below wr.heap.size wr Wa := by rw [HWa.out]; exact Below.alloc' (Below.refl _ _) _
            have hax : Wa.heap[wr.heap.size]? = some (.cells #[.int .i64 s.day, .slice thA s.holders.length thc, .slice tuA s.used.length tuc, .slice tmA s.marks.length tmc] 43 (0, 0)) := by rw [HWa.out]; exact heap_alloc_new wr _
            have d0 : Wa.cell? ⟨wr.heap.size, 0, none⟩ = some (.int .i64 s.day) := (cell_of_row Wa _ 0 _ _ _ hax).trans rfl
            have d1 : Wa.cell? ⟨wr.heap.size, 1, none⟩ = some (.slice thA s.holders.length thc) := (cell_of_row Wa _ 1 _ _ _ hax).trans rfl
            have d2 : Wa.cell? ⟨wr.heap.size, 2, none⟩ = some (.slice tuA s.used.length tuc) := (cell_of_row Wa _ 2 _ _ _ hax).trans rfl
            have d3 : Wa.cell? ⟨wr.heap.size, 3, none⟩ = some (.slice tmA s.marks.length tmc) := (cell_of_row Wa _ 3 _ _ _ hax).trans rfl
            have yga := (((HU.out.on hba).cellM HSM.out HGC.out) : Wa.cell? ⟨cg, 0, none⟩ = _)
            obtain ⟨Wd, hdel, hSd, hUd⟩ := (HG.out.below hba).del HSG.out HTM2.out 0
            have HUd : Hid (Upd (fun k => k = bf ∨ k = bg) Wm Wd) := (HU.out.on hba).trans hUd (fun _ _ h => .inr h)
            have HUZd : Hid (Upd (fun k => k = bf ∨ k = bg) Z3 Wd) := (HUZ.out.on hba).trans hUd (fun _ _ h => .inr h)
            have hmbg : ∀ k, k = bg → MapBlk Wa k := fun k hk => by rw [hk]; exact (HG.out.below hba).blk
            have HFd : Hid (SetAt B Wd bf F) := (HF.out.below hba).upd hUd (fun e => hne e) hmbg
            have HGd := Lib.hid hSd; clear hSd
            have HSTd : Hid (StateAt Wd ⟨⟨thA, thc⟩, ⟨tuA, tuc⟩, ⟨tmA, tmc⟩⟩ s) := (HST.out.below hba).upd hUd hmbg
            have e0 := hUd.cellM hmbg d0
            have e1 := hUd.cellM hmbg d1
            have e2 := hUd.cellM hmbg d2
            have e3 := hUd.cellM hmbg d3
            obtain ⟨sb, hsb⟩ : ∃ sb, sb = wr.heap.size := ⟨_, rfl⟩
            rw [← hsb] at e0 e1 e2 e3 ⊢
            have f5 := HUd.out.cellM HSM.out HC5.out
            have HRd : Hid (∀ (i : Nat) (t : List UInt8), j + 1 ≤ i → T[i]? = some t → ∃ x ∈ G.filter (fun x => x.text != s.text), x.text = t) := fun i t hi ht => by
             obtain ⟨x, hx, hxt⟩ := HRM.out i t (by omega) ht
             refine ⟨x, filter_text.2 ⟨hx, fun e => ?_⟩, hxt⟩
             subst e
             have h1 := HTX.out
             rw [hxt] at h1
             have := nodup_get HND.out h1 ht
             omega
            have HId : Hid (Inv C p l F (G.filter (fun x => x.text != s.text)) [s] ∧ ∀ x ∈ l, x ∈ F) := ⟨HI.out.1.take s, HI.out.2⟩
            have HFGd : Hid (F.length = (G.filter (fun x => x.text != s.text)).length + (d + (j + 1))) := by
             have h1 := filter_len HG.out.nodup HSG.out
             have h2 := HFG.out
             show _ = _
             omega
            generalize G.filter (fun x => x.text != s.text) = G1 at HGd HRd HId HFGd
            clear hax d0 d1 d2 d3 hrun hba yf yg hlf ct HU HF HG HI HRM HUZ HFG HST hsb HWa hUd hmbg
            by_cases hd : C.days ≤ s.day
            · go_wp2
              go_roundg (T.length - (j + 1))
              case measure => rw [HG3.out]; omega
              case rel => exact ⟨j + 1, F, G1, rfl, by omega, by go_num, rfl, HFGd, hFl, HUd, HFd, HGd, ⟨HId.out.1.done (fun h => by omega), HId.out.2⟩, HRd, HUZd⟩
            · have hd2 : s.day < C.days := by omega
              clear f5
              have f0 := HUd.out.cellM HSM.out HC0.out
              have f1 := HUd.out.cellM HSM.out HC1.out
              have f2 := HUd.out.cellM HSM.out HC2.out
              have f3 := HUd.out.cellM HSM.out HC3.out
              have f4 := HUd.out.cellM HSM.out HC4.out
              have f5 := HUd.out.cellM HSM.out HC5.out
              have f6 := HUd.out.cellM HSM.out HC6.out
              have HHD : Hid (Calls Tryz.prog 83 #[.agg #[.int .i64 C.parties, .slice vhA C.holders.length vhc, .slice vuA C.units.length vuc, .slice vaA C.acts.length vac, .slice vkA C.clauses.length vkc, .int .i64 C.days, .slice voA C.off.length voc], .agg #[.int .i64 s.day, .slice thA s.holders.length thc, .slice tuA s.used.length tuc, .slice tmA s.marks.length tmc], .int .i64 p] Wd (IntsPost (C.hid s p) Wd)) := hidden_any (⟨⟨vhA, vhc⟩, ⟨vuA, vuc⟩, ⟨vaA, vac⟩, ⟨vkA, vkc⟩, ⟨voA, voc⟩⟩ : CV) C ⟨⟨thA, thc⟩, ⟨tuA, tuc⟩, ⟨tmA, tmc⟩⟩ s p Wd (HCM.out.upd HUd.out HSM.out) HSTd.out HSO.out
              have HHM : Hid (∀ x ∈ C.hid s p, StateOk C (C.next s x) ∧ C.stepErr s x = 0 ∧ Reach C p l (C.next s x)) := fun x hx => ⟨(hid_next HSO.out hd2 hx).1, (hid_next HSO.out hd2 hx).2, .step (HId.out.1.reach s HSF.out) hd2 hx⟩
              have hHl : (C.hid s p).length ≤ 60 := Nat.le_trans (hidTo_len C s p _) (KCon.ok HSO.out.con).nacts
              generalize hH : C.hid s p = H at HHD HHM hHl
              have HHE := Lib.hid hH; clear hH
              go_wp2_with (go_at_call 83; refine HHD.out.mono ?_; rintro e Z1 ⟨HA, hc, rfl, hAt, hb⟩; refine Hid.out ?_)
              refine Lib.hid ?_
              have HU1 : Hid (Upd (fun k => k = bf ∨ k = bg) Wm Z1) := HUd.out.on hb
              have HUZ1 : Hid (Upd (fun k => k = bf ∨ k = bg) Z3 Z1) := HUZd.out.on hb
              have HF1 := Lib.hid (HFd.out.below hb)
              have HG1 := Lib.hid (HGd.out.below hb)
              have HST1 := Lib.hid (HSTd.out.below hb)
              have lsb := World.block_lt_of_cell? Wd _ e0
              simp only at lsb
              have E0 := Lib.hid (((bcell hb).1 _ _ lsb).trans e0)
              have E1 := Lib.hid (((bcell hb).1 _ _ lsb).trans e1)
              have E2 := Lib.hid (((bcell hb).1 _ _ lsb).trans e2)
              have E3 := Lib.hid (((bcell hb).1 _ _ lsb).trans e3)
              have HAT1 := Lib.hid hAt; clear hAt
              have HSM1 : Hid (∀ k, (k = bf ∨ k = bg) → MapBlk Z1 k) := fun k hk => by
               rcases hk with rfl | rfl
               · exact HF1.out.blk
               · exact HG1.out.blk
              clear hb lsb e0 e1 e2 e3 f0 f1 f2 f3 f4 f5 f6 HUd HUZd HFd HGd HSTd HHD yga hdel
              go_wp2
              go_loopg [66] H.length (fun g4 v66 w4 => ∃ (i : Nat) (F G : List KState), g4 = H.length - i ∧ i ≤ H.length ∧ v66 = .int .i64 i ∧ Hid (F.length = G.length + (d + (j + 1))) ∧ F.length ≤ 300 + i ∧ Hid (Upd (fun k => k = bf ∨ k = bg) Wm w4) ∧ Hid (SetAt B w4 bf F) ∧ Hid (SetAt B w4 bg G) ∧ Hid (Inv C p l F G [s] ∧ ∀ x ∈ l, x ∈ F) ∧ Hid (∀ (i : Nat) (t : List UInt8), j + 1 ≤ i → T[i]? = some t → ∃ x ∈ G, x.text = t) ∧ Hid (Upd (fun k => k = bf ∨ k = bg) Z1 w4) ∧ Hid (∀ (q : Nat) (x : Int), q < i → H[q]? = some x → C.next s x ∈ F))
              case atStart => exact ⟨0, F, G1, rfl, Nat.zero_le _, rfl, HFGd, by omega, HU1, HF1, HG1, HId, HRd, Upd.refl _ _, fun q x hq => by omega⟩
              case round =>
               clear HFGd HU1 HF1 HG1 HId HRd h300 hFl HSG HSF G1
               obtain ⟨i, F, G, hg4, hi, rfl, HFG, hFl, HU, HF, HG, HI, HRM, HUZ, HNX⟩ := hrel
               have HG4 := Lib.hid hg4; clear hg4
               by_cases hlt4 : i < H.length
               · obtain ⟨x, hx⟩ : ∃ x, H[i]? = some x := ⟨_, List.getElem?_eq_getElem hlt4⟩
                 obtain ⟨hxo, hxe, hxr⟩ := HHM.out x (List.mem_of_getElem? hx)
                 obtain ⟨hb4, hoff4, hA4, _, hc4⟩ := (HAT1.out.upd (by omega) HUZ.out HSM1.out).1.form (by omega) (by omega)
                 subst hA4
                 have cx : wr.cell? ⟨hb4, hoff4 + i, none⟩ = some (.int .i64 x) := by rw [hc4 i (by omega)]; simp [ints, hx]
                 have HX := Lib.hid hx; clear hx hc4
                 have HXO := Lib.hid hxo; clear hxo
                 have HXE := Lib.hid hxe; clear hxe
                 have HXR := Lib.hid hxr; clear hxr
                 have f0 := HU.out.cellM HSM.out HC0.out
                 have f1 := HU.out.cellM HSM.out HC1.out
                 have f2 := HU.out.cellM HSM.out HC2.out
                 have f3 := HU.out.cellM HSM.out HC3.out
                 have f4 := HU.out.cellM HSM.out HC4.out
                 have f5 := HU.out.cellM HSM.out HC5.out
                 have f6 := HU.out.cellM HSM.out HC6.out
                 have e0 := HUZ.out.cellM HSM1.out E0.out
                 have e1 := HUZ.out.cellM HSM1.out E1.out
                 have e2 := HUZ.out.cellM HSM1.out E2.out
                 have e3 := HUZ.out.cellM HSM1.out E3.out
                 have HSTw : Hid (StateAt wr ⟨⟨thA, thc⟩, ⟨tuA, tuc⟩, ⟨tmA, tmc⟩⟩ s) := HST1.out.upd HUZ.out HSM1.out
                 have HSP : Hid (Calls Tryz.prog 21 #[.agg #[.int .i64 C.parties, .slice vhA C.holders.length vhc, .slice vuA C.units.length vuc, .slice vaA C.acts.length vac, .slice vkA C.clauses.length vkc, .int .i64 C.days, .slice voA C.off.length voc], .agg #[.int .i64 s.day, .slice thA s.holders.length thc, .slice tuA s.used.length tuc, .slice tmA s.marks.length tmc], .int .i64 x] wr (StatePost (C.stepErr s x) (C.next s x) wr)) := step_any (⟨⟨vhA, vhc⟩, ⟨vuA, vuc⟩, ⟨vaA, vac⟩, ⟨vkA, vkc⟩, ⟨voA, voc⟩⟩ : CV) C ⟨⟨thA, thc⟩, ⟨tuA, tuc⟩, ⟨tmA, tmc⟩⟩ s x wr (HCM.out.upd HU.out HSM.out) HSTw.out
                 rw [HXE.out] at HSP
                 have HNE : Hid (∀ F' : List KState, (∀ y ∈ F, y ∈ F') → C.next s x ∈ F' → ∀ (q : Nat) (y : Int), q < i + 1 → H[q]? = some y → C.next s y ∈ F') := fun F' hsub hin q y hq hy => by
                  by_cases e : q = i
                  · subst e
                    rw [HX.out] at hy
                    injection hy with hy
                    rw [← hy]
                    exact hin
                  · exact hsub _ (HNX.out q y (by omega) hy)
                 generalize C.next s x = s2 at HSP HXO HXR HNE
                 have HSP2 : Hid (Calls Tryz.prog 21 #[.agg #[.int .i64 C.parties, .slice vhA C.holders.length vhc, .slice vuA C.units.length vuc, .slice vaA C.acts.length vac, .slice vkA C.clauses.length vkc, .int .i64 C.days, .slice voA C.off.length voc], .agg #[.int .i64 s.day, .slice thA s.holders.length thc, .slice tuA s.used.length tuc, .slice tmA s.marks.length tmc], .int .i64 x] wr (StateRet s2 wr)) := HSP.out.mono (fun _ _ h => h.ret)
                 have i0 : (0 : Int) ≤ (i : Int) := by omega
                 have i1 : (i : Int) < (H.length : Int) := by omega
                 go_upto_region 21 with (fail)
                 go_wp2_with (go_at_call 21; refine HSP2.out.mono ?_; rintro e zs ⟨uhA, uhc, uuA, uuc, umA, umc, rfl, hst2, hnt2, hbs⟩; refine Hid.out ?_)
                 refine Lib.hid ?_
                 have HUs : Hid (Upd (fun k => k = bf ∨ k = bg) Wm zs) := HU.out.on hbs
                 have HUZs : Hid (Upd (fun k => k = bf ∨ k = bg) Z1 zs) := HUZ.out.on hbs
                 have HFs := Lib.hid (HF.out.below hbs)
                 have HGs := Lib.hid (HG.out.below hbs)
                 have HS2 := Lib.hid hst2; clear hst2
                 have HNT2 := Lib.hid (hnt2.mono (Nat.le_trans hBw (HBW.out _ HU.out).size)); clear hnt2
                 clear hbs f0 f1 f2 f3 f4 f5 f6 e0 e1 e2 e3 cx HSP HSP2 HSTw
                 go_upto_region 22 with (fail)
                 obtain ⟨Wb, HWb⟩ : ∃ Wb, Hid (Wb = zs.alloc (.cells #[.int .i64 s2.day, .slice uhA s2.holders.length uhc, .slice uuA s2.used.length uuc, .slice umA s2.marks.length umc] 43)) := ⟨_, rfl⟩
                 rw [← HWb.out]
                 have hbb : Below zs.heap.size zs Wb := by rw [HWb.out]; exact Below.alloc' (Below.refl _ _) _
                 have hbx : Wb.heap[zs.heap.size]? = some (.cells #[.int .i64 s2.day, .slice uhA s2.holders.length uhc, .slice uuA s2.used.length uuc, .slice umA s2.marks.length umc] 43 (0, 0)) := by rw [HWb.out]; exact heap_alloc_new zs _
                 have d0 : Wb.cell? ⟨zs.heap.size, 0, none⟩ = some (.int .i64 s2.day) := (cell_of_row Wb _ 0 _ _ _ hbx).trans rfl
                 have d1 : Wb.cell? ⟨zs.heap.size, 1, none⟩ = some (.slice uhA s2.holders.length uhc) := (cell_of_row Wb _ 1 _ _ _ hbx).trans rfl
                 have d2 : Wb.cell? ⟨zs.heap.size, 2, none⟩ = some (.slice uuA s2.used.length uuc) := (cell_of_row Wb _ 2 _ _ _ hbx).trans rfl
                 have d3 : Wb.cell? ⟨zs.heap.size, 3, none⟩ = some (.slice umA s2.marks.length umc) := (cell_of_row Wb _ 3 _ _ _ hbx).trans rfl
                 have HUb : Hid (Upd (fun k => k = bf ∨ k = bg) Wm Wb) := HUs.out.on hbb
                 have hF60 : F.length < 1000000 := by omega
                 have hG60 : G.length < 1000000 := by have := HFG.out; omega
                 have HM : Hid (Calls Tryz.prog 80 #[.agg #[.int .i64 s2.day, .slice uhA s2.holders.length uhc, .slice uuA s2.used.length uuc, .slice umA s2.marks.length umc], .pointer (some ⟨cf, 0, none⟩), .pointer (some ⟨cg, 0, none⟩)] Wb (MeetPost B bf bg F G s2 Wb)) :=
                  meet_any ⟨⟨uhA, uhc⟩, ⟨uuA, uuc⟩, ⟨umA, umc⟩⟩ s2 cf cg bf bg F G Wb (HS2.out.below hbb) HNT2.out HXO.out.ranged (HTM.out.upd HUb.out HSM.out) (HFs.out.below hbb) (HGs.out.below hbb) (HUb.out.cellM HSM.out HFC.out) (HUb.out.cellM HSM.out HGC.out) hne hF60 hG60 (fun h => text_mem.2 (HI.out.1.sub s2 (text_mem.1 h)))
                 have HUZb : Hid (Upd (fun k => k = bf ∨ k = bg) Z1 Wb) := HUZs.out.on hbb
                 clear hbx hbb HWb
                 go_wp2_with (go_at_call 80; refine HM.out.mono ?_; rintro e z9 ⟨rfl, h1, h2, h3⟩; refine Hid.out ?_)
                 refine Lib.hid ?_
                 have HU9 : Hid (Upd (fun k => k = bf ∨ k = bg) Wm z9) := HUb.out.trans h1 (fun _ _ h => h)
                 have HUZ9 : Hid (Upd (fun k => k = bf ∨ k = bg) Z1 z9) := HUZb.out.trans h1 (fun _ _ h => h)
                 have HF9 := Lib.hid h2
                 have HG9 := Lib.hid h3
                 have hml := met_len F G s2 _ HFG.out
                 have HFG9 : Hid ((metF F s2).length = (metG F G s2).length + (d + (j + 1))) := hml.1
                 have hFl9 : (metF F s2).length ≤ 300 + (i + 1) := by omega
                 have HI9 : Hid (Inv C p l (metF F s2) (metG F G s2) [s] ∧ ∀ x ∈ l, x ∈ metF F s2) := ⟨HI.out.1.meet HXO.out HXR.out, fun y hy => metF_mem.2 (.inl (HI.out.2 y hy))⟩
                 have HRM9 : Hid (∀ (i : Nat) (t : List UInt8), j + 1 ≤ i → T[i]? = some t → ∃ x ∈ metG F G s2, x.text = t) := fun q t hq ht => by
                  obtain ⟨y, hy, hyt⟩ := HRM.out q t hq ht
                  exact ⟨y, metG_sub hy, hyt⟩
                 have HNX9 := Lib.hid (HNE.out (metF F s2) (fun y hy => metF_mem.2 (.inl hy)) (metF_mem.2 (.inr rfl)))
                 clear h1 h2 h3 hml HM d0 d1 d2 d3
                 go_wp2
                 go_roundg (H.length - (i + 1))
                 case measure => rw [HG4.out]; omega
                 case rel => exact ⟨i + 1, metF F s2, metG F G s2, rfl, by omega, by go_num, HFG9, hFl9, HU9, HF9, HG9, HI9, HRM9, HUZ9, HNX9⟩
               · obtain rfl : i = H.length := by omega
                 have HID : Hid (Inv C p l F G [] ∧ ∀ x ∈ l, x ∈ F) := ⟨HI.out.1.done (fun _ x hx => by
                  rw [HHE.out] at hx
                  obtain ⟨q, hq⟩ := List.mem_iff_getElem?.1 hx
                  exact HNX.out q x (List.getElem?_eq_some_iff.1 hq).1 hq), HI.out.2⟩
                 go_wp2
                 go_roundg (T.length - (j + 1))
                 case measure => rw [HG3.out]; omega
                 case rel => exact ⟨j + 1, F, G, rfl, by omega, by go_num, rfl, HFG, by omega, HU, HF, HG, HID, HRM, HUZ1.out.trans HUZ.out (fun _ _ h => h)⟩
        · obtain rfl : j = T.length := by omega
          go_wp2
          go_roundg (l.length + 401 - (d + T.length))
          case measure => rw [HGK.out]; have := HFG.out; omega
          case rel => exact ⟨F, G, d + T.length, rfl, rfl, HFG, hFl, HU, HF, HG, HI⟩
     · have hG0 : G = [] := List.eq_nil_of_length_eq_zero (by omega)
       subst hG0
       have hlf : ∀ ty, (Builtin.len_ #[111] ty #[.map (some bf)]).run Tryz.prog wr = .ok (.int .i64 (F.length : Nat)) wr := fun ty => HF.out.len ty
       by_cases h300 : 300 < F.length
       · go_wp2
         rw [Exit.noGoto_ret]
         go_ret2
         exact ⟨HBW.out _ HU.out, .inr ⟨rfl, F, nodup_states HF.out.nodup, h300, HI.out.1.reach⟩⟩
       · have HKY := Lib.hid (keys_any bf wr)
         have HSO := Lib.hid (sorted_any HF.out (by omega))
         go_wp2_with (first | (go_at_call 82; refine HKY.out.mono ?_; rintro e z0 ⟨rfl, rfl⟩) | (go_at_call 81; refine HSO.out.mono ?_; rintro e Z5 ⟨T, TA, tc, rfl, hAt, hb, hperm, hsort⟩; refine Hid.out ?_))
         refine Lib.hid ?_
         have hb0 : Below wr.heap.size wr Z5 := Below.step (Below.alloc' (Below.refl _ _) _) hb
         have HU5 : Hid (Upd (fun k => k = bf ∨ k = bg) Wm Z5) := HU.out.on hb0
         have HF5 := Lib.hid (HF.out.below hb0)
         have HTP := Lib.hid hperm
         have HST := Lib.hid (strict hsort (hperm.nodup_iff.2 HF.out.nodup))
         have htl : T.length = F.length := by rw [hperm.length_eq, List.length_map]
         have htl3 : T.length ≤ 300 := by omega
         have HTL := Lib.hid htl; clear htl
         have HAT := Lib.hid hAt
         have yf5 := HU5.out.cellM HSM.out HFC.out
         have HYF := Lib.hid yf5; clear yf5
         clear hAt hb hperm hsort hb0 HKY HSO yf yg hlg hlf HU HF HG
         obtain ⟨is, hsi, hsz, hss, hsb⟩ := info_parts' (P := Tryz.prog) (t := 43) (z := some zeroState) (s := 4) (b := 80) (by kernel_rfl)
         go_wp2
         go_loopg [95, 21] T.length (fun g5 v95 v21 w5 => ∃ (j : Nat) (R : List KState) (ts : List TV), g5 = T.length - j ∧ j ≤ T.length ∧ v95 = .int .i64 j ∧ Hid (R.map KState.text = T.take j) ∧ Hid (∀ s ∈ R, s ∈ F) ∧ Hid (ts.length = R.length) ∧ R.length ≤ j ∧ Hid (w5.ownsRow Z5.heap.size 43 4 v21 R.length ((R.zip ts).flatMap (fun p => TV.cells p.2 p.1))) ∧ Hid (∀ (i : Nat) (s : KState) (t : TV), R[i]? = some s → ts[i]? = some t → StateAt Z5 t s ∧ NewT B t) ∧ Hid (Below Z5.heap.size Z5 w5))
         case atStart => exact ⟨0, [], [], rfl, Nat.zero_le _, rfl, rfl, (fun s hs => by cases hs), rfl, Nat.le_refl _, World.ownsRow_nil _ _ _ _, (fun i s t hs => by simp at hs), Below.refl _ _⟩
         case round =>
          obtain ⟨j, R, ts, hg5, hj, rfl, HRT, HRF, HRL, hRl, HR, HRS, HB5⟩ := hrel
          have HG5 := Lib.hid hg5; clear hg5
          by_cases hlt : j < T.length
          · obtain ⟨tx, htx⟩ : ∃ tx, T[j]? = some tx := ⟨_, List.getElem?_eq_getElem hlt⟩
            obtain ⟨s, hsF, hst⟩ := List.mem_map.1 (HTP.out.mem_iff.1 (List.mem_of_getElem? htx))
            subst hst
            have htm := text_max (HI.out.1.ok s hsF).ranged
            obtain ⟨⟨⟨thA, thc⟩, ⟨tuA, tuc⟩, ⟨tmA, tmc⟩⟩, hrun, hstt, hntt⟩ := HF5.out.lookAt HB5.out hsF htm
            have HNTT := Lib.hid hntt; clear hntt
            simp only [TV.val, TV.cells, KState.cells] at hrun
            obtain ⟨tb, toff, hTA, _, htc⟩ := (HAT.out.below (by omega) HB5.out).1.form (by omega) (by omega)
            subst hTA
            have ct : wr.cell? ⟨tb, toff + j, none⟩ = some (.string ⟨s.text.toArray⟩) := by
             rw [htc j (by omega), List.getElem?_map, htx]
             rfl
            have yf := ((bcell HB5.out).1 _ _ (World.block_lt_of_cell? Z5 _ HYF.out)).trans HYF.out
            have HSF := Lib.hid hsF; clear hsF
            have HTX := Lib.hid (take_snoc' htx); clear htx
            have HSTT := Lib.hid hstt; clear hstt htc htm
            have j0 : (0 : Int) ≤ (j : Int) := by omega
            have j1 : (j : Int) < (T.length : Int) := by omega
            have hsz5 := HB5.out.size
            go_wp2_with (at_builtin; refine wpList_append_one rfl _ _ 28 rfl 43 is zeroState 4 80 Tryz.underlying28 hsi hsz hss hsb rfl (by decide) Z5.heap.size _ _ _ rfl HR.out [.int .i64 s.day, .slice thA s.holders.length thc, .slice tuA s.used.length tuc, .slice tmA s.marks.length tmc] _ rfl rfl (by intro u hu; simp only [List.mem_cons, List.not_mem_nil, or_false] at hu; rcases hu with rfl | rfl | rfl | rfl <;> rfl) rfl (by unfold maxLen; omega) (by omega) hsz5 ?_; intro v6 w6 h1 h2 h3; refine Hid.out ?_)
            refine Lib.hid ?_
            have HR6 : Hid (w6.ownsRow Z5.heap.size 43 4 v6 (R ++ [s]).length (((R ++ [s]).zip (ts ++ [⟨⟨thA, thc⟩, ⟨tuA, tuc⟩, ⟨tmA, tmc⟩⟩])).flatMap (fun p => TV.cells p.2 p.1))) := by
             show World.ownsRow _ _ _ _ _ _ _
             rw [List.zip_append HRL.out.symm, List.flatMap_append, List.length_append, List.length_singleton]
             simpa [TV.cells, KState.cells] using h1
            have HB6 : Hid (Below Z5.heap.size Z5 w6) := HB5.out.trans h2
            have HRS6 : Hid (∀ (i : Nat) (x : KState) (t : TV), (R ++ [s])[i]? = some x → (ts ++ [⟨⟨thA, thc⟩, ⟨tuA, tuc⟩, ⟨tmA, tmc⟩⟩])[i]? = some t → StateAt Z5 t x ∧ NewT B t) := fun i x t hx ht => by
             by_cases hi : i < R.length
             · rw [List.getElem?_append_left hi] at hx
               rw [List.getElem?_append_left (by rw [HRL.out]; exact hi)] at ht
               exact HRS.out i x t hx ht
             · rw [List.getElem?_append_right (by omega)] at hx
               rw [List.getElem?_append_right (by rw [HRL.out]; omega), HRL.out] at ht
               cases hk : i - R.length with
               | zero =>
                rw [hk] at hx ht
                simp at hx ht
                rw [← hx, ← ht]
                exact ⟨HSTT.out, HNTT.out⟩
               | succ q => rw [hk] at hx; simp at hx
            have HRF6 : Hid (∀ x ∈ R ++ [s], x ∈ F) := fun x hx => by
             rcases List.mem_append.1 hx with hx | hx
             · exact HRF.out x hx
             · rw [List.mem_singleton] at hx
               rw [hx]
               exact HSF.out
            clear h1 h2 h3 hrun ct yf
            go_wp2
            go_roundg (T.length - (j + 1))
            case measure => rw [HG5.out]; omega
            case rel => exact ⟨j + 1, R ++ [s], ts ++ [⟨⟨thA, thc⟩, ⟨tuA, tuc⟩, ⟨tmA, tmc⟩⟩], rfl, by omega, by go_num, by show _ = _; rw [List.map_append, HRT.out, HTX.out]; rfl, HRF6, by show _ = _; simp [HRL.out], by simp; omega, HR6, HRS6, HB6⟩
          · obtain rfl : j = T.length := by omega
            have hrt := HRT.out
            rw [List.take_length] at hrt
            obtain ⟨A, c, rfl, hAt⟩ := ownsRow_at HR.out (cells_one _)
            have HRES : Hid (StatesN B wr ⟨A, c⟩ R) := ⟨fun b off e => Nat.le_trans (Nat.le_trans hBw (HBW.out _ HU5.out).size) (HR.out.lt b (by simp only at e; rw [e]; rfl)).1, ts, HRL.out, hAt, fun i s t hs ht => ⟨(HRS.out i s t hs ht).1.below HB5.out, (HRS.out i s t hs ht).2⟩⟩
            have hmem : ∀ s, s ∈ F → s ∈ R := fun s hs => by
             rw [← text_mem, hrt]
             exact HTP.out.mem_iff.2 (text_mem.2 hs)
            have HCLO : Hid (IsClo C p l R) := by
             refine ⟨by rw [hrt]; exact HST.out, by omega, fun s hs => HI.out.1.ok s (HRF.out s hs), fun s hs => HI.out.1.reach s (HRF.out s hs), fun s hs => hmem s (HI.out.2 s hs), fun s hs hd x hx => ?_⟩
             exact hmem _ (HI.out.1.closed s (HRF.out s hs) (by simp) (by simp) hd x hx)
            clear hrt hAt hmem
            go_wp2
            rw [Exit.noGoto_ret]
            go_ret2
            exact ⟨(HBW.out _ HU5.out).trans (HB5.out.mono (HBW.out _ HU5.out).size), .inl ⟨R, A, c, rfl, HRES.out, HCLO.out⟩⟩
end Go.Proofs.YtaielhafpmjkaaaGreatDoor
