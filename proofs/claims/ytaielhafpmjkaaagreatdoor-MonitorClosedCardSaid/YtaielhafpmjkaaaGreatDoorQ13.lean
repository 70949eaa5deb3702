/-
  Prj1; Sys4; Mon1; Mon2
-/
import Derived.Test.YtaielhafpmjkaaaGreatDoorQ12
namespace Go.Proofs.YtaielhafpmjkaaaGreatDoor
open Go.RowKit
def holderAt (l : List Int) (x : Int) : Int := (l[x.toNat]?).getD 0
def seesB (hs : List Int) (ki ro tg pt : Int) : Bool := (cond ((!(ki == 1)) || ((tg == -1) || (holderAt hs tg == pt))) true ((!(ro == -1)) && (holderAt hs ro == pt)))
def seesK (s : KState) (a : KAct) (p : Int) : Bool := seesB s.holders a.kind a.role a.tgt p
set_option maxRecDepth 100000 in
set_option maxHeartbeats 4000000 in
theorem sees_any (v : CV) (C : KCon) (tv : TV) (s : KState) (pt : Int) (i : Nat) (a : KAct) (w : World) (hC : ConAt w v C) (hS : StateAt w tv s) (ha : C.acts[i]? = some a) (hpos : 0 < s.holders.length)
 (hto : (a.kind == 1) = true → (a.tgt == -1) = false → 0 ≤ a.tgt ∧ a.tgt < s.holders.length) (hro : (a.role == -1) = false → 0 ≤ a.role ∧ a.role < s.holders.length) :
 Calls Tryz.prog 50 #[v.val C, tv.val s, .int .i64 pt, .int .i64 i] w (RetB (.bool (seesK s a pt)) w) := by
 have hil : i < C.acts.length := (List.getElem?_eq_some_iff.1 ha).1
 obtain ⟨b, off, hA0, hbl, hcell⟩ := hC.act ha
 obtain ⟨hb, hoff, hH0, hhb, hhc⟩ := hS.holders.1.form hpos (by omega)
 obtain ⟨⟨hA, hcp⟩, ⟨uA, ucp⟩, ⟨aA, acp⟩, ⟨kA, kcp⟩, ⟨oA, ocp⟩⟩ := v
 obtain ⟨⟨shA, shc⟩, ⟨suA, suc⟩, ⟨smA, smc⟩⟩ := tv
 simp only at hA0 hH0
 subst hA0 hH0
 have hhx : s.holders.length ≤ 9223372036854775807 := by have h1 := hS.holders.2.2.1; have h2 := hS.holders.2.2.2; unfold maxLen at h2; omega
 obtain ⟨ki, ro, gi, tg, un, ⟨ln, ld⟩⟩ := a
 generalize hE : seesK s ⟨ki, ro, gi, tg, un, ⟨ln, ld⟩⟩ pt = E
 simp only [seesK] at hE
 have HE := Lib.hid hE; clear hE
 simp only at hto hro
 have HTO := Lib.hid hto; clear hto
 have HRO := Lib.hid hro; clear hro
 clear hC hS ha
 simp only [CV.val, CV.cells, TV.val, TV.cells, KState.cells]
 have i0 : (0 : Int) ≤ (i : Int) := by omega
 have i1 : (i : Int) < (C.acts.length : Int) := by omega
 have c0 : w.cell? ⟨b, off + i * 7, none⟩ = some (.int .i64 ki) := hcell w (Below.refl _ _) 0 (by omega)
 have c1 : w.cell? ⟨b, off + i * 7 + 1, none⟩ = some (.int .i64 ro) := hcell w (Below.refl _ _) 1 (by omega)
 have c2 : w.cell? ⟨b, off + i * 7 + 2, none⟩ = some (.int .i64 gi) := hcell w (Below.refl _ _) 2 (by omega)
 have c3 : w.cell? ⟨b, off + i * 7 + 3, none⟩ = some (.int .i64 tg) := hcell w (Below.refl _ _) 3 (by omega)
 have c4 : w.cell? ⟨b, off + i * 7 + 4, none⟩ = some (.int .i64 un) := hcell w (Below.refl _ _) 4 (by omega)
 have c5 : w.cell? ⟨b, off + i * 7 + 5, none⟩ = some (.int .i64 ln) := hcell w (Below.refl _ _) 5 (by omega)
 have c6 : w.cell? ⟨b, off + i * 7 + 6, none⟩ = some (.int .i64 ld) := hcell w (Below.refl _ _) 6 (by omega)
 clear hcell
 go_enter Tryz.func50, Tryz.ntmps50
 go_upto_region 2 with (fail)
 obtain ⟨W0, HW0⟩ : ∃ W0, Hid (W0 = ((w.alloc (.cells #[.int .i64 C.parties, .slice hA C.holders.length hcp, .slice uA C.units.length ucp, .slice (some ⟨b, off, none⟩) C.acts.length acp, .slice kA C.clauses.length kcp, .int .i64 C.days, .slice oA C.off.length ocp] 27)).alloc (.cells #[.int .i64 s.day, .slice (some ⟨hb, hoff, none⟩) s.holders.length shc, .slice suA s.used.length suc, .slice smA s.marks.length smc] 43)).alloc (.cells #[.int .i64 ki, .int .i64 ro, .int .i64 gi, .int .i64 tg, .int .i64 un, .int .i64 ln, .int .i64 ld] 67)) := ⟨_, rfl⟩
 have hh0 : W0.heap[w.heap.size]? = some (.cells #[.int .i64 C.parties, .slice hA C.holders.length hcp, .slice uA C.units.length ucp, .slice (some ⟨b, off, none⟩) C.acts.length acp, .slice kA C.clauses.length kcp, .int .i64 C.days, .slice oA C.off.length ocp] 27 (0, 0)) := by rw [HW0.out]; exact (Below.heap_alloc ((w.alloc (.cells #[.int .i64 C.parties, .slice hA C.holders.length hcp, .slice uA C.units.length ucp, .slice (some ⟨b, off, none⟩) C.acts.length acp, .slice kA C.clauses.length kcp, .int .i64 C.days, .slice oA C.off.length ocp] 27)).alloc (.cells #[.int .i64 s.day, .slice (some ⟨hb, hoff, none⟩) s.holders.length shc, .slice suA s.used.length suc, .slice smA s.marks.length smc] 43)) _ (w.heap.size) (by simp only [World.size_alloc]; omega)).trans ((Below.heap_alloc (w.alloc (.cells #[.int .i64 C.parties, .slice hA C.holders.length hcp, .slice uA C.units.length ucp, .slice (some ⟨b, off, none⟩) C.acts.length acp, .slice kA C.clauses.length kcp, .int .i64 C.days, .slice oA C.off.length ocp] 27)) _ (w.heap.size) (by simp)).trans (heap_alloc_new w (.cells #[.int .i64 C.parties, .slice hA C.holders.length hcp, .slice uA C.units.length ucp, .slice (some ⟨b, off, none⟩) C.acts.length acp, .slice kA C.clauses.length kcp, .int .i64 C.days, .slice oA C.off.length ocp] 27)))
 have k0_0 : ∀ sB : Bl W0, sB.val.cell? ⟨w.heap.size, 0, none⟩ = some (.int .i64 C.parties) := fun sB => sB.cell ((cell_of_row W0 _ 0 _ _ _ hh0).trans rfl)
 have k0_1 : ∀ sB : Bl W0, sB.val.cell? ⟨w.heap.size, 1, none⟩ = some (.slice hA C.holders.length hcp) := fun sB => sB.cell ((cell_of_row W0 _ 1 _ _ _ hh0).trans rfl)
 have k0_2 : ∀ sB : Bl W0, sB.val.cell? ⟨w.heap.size, 2, none⟩ = some (.slice uA C.units.length ucp) := fun sB => sB.cell ((cell_of_row W0 _ 2 _ _ _ hh0).trans rfl)
 have k0_3 : ∀ sB : Bl W0, sB.val.cell? ⟨w.heap.size, 3, none⟩ = some (.slice (some ⟨b, off, none⟩) C.acts.length acp) := fun sB => sB.cell ((cell_of_row W0 _ 3 _ _ _ hh0).trans rfl)
 have k0_4 : ∀ sB : Bl W0, sB.val.cell? ⟨w.heap.size, 4, none⟩ = some (.slice kA C.clauses.length kcp) := fun sB => sB.cell ((cell_of_row W0 _ 4 _ _ _ hh0).trans rfl)
 have k0_5 : ∀ sB : Bl W0, sB.val.cell? ⟨w.heap.size, 5, none⟩ = some (.int .i64 C.days) := fun sB => sB.cell ((cell_of_row W0 _ 5 _ _ _ hh0).trans rfl)
 have k0_6 : ∀ sB : Bl W0, sB.val.cell? ⟨w.heap.size, 6, none⟩ = some (.slice oA C.off.length ocp) := fun sB => sB.cell ((cell_of_row W0 _ 6 _ _ _ hh0).trans rfl)
 clear hh0
 have hh1 : W0.heap[w.heap.size + 1]? = some (.cells #[.int .i64 s.day, .slice (some ⟨hb, hoff, none⟩) s.holders.length shc, .slice suA s.used.length suc, .slice smA s.marks.length smc] 43 (0, 0)) := by rw [HW0.out]; exact (Below.heap_alloc ((w.alloc (.cells #[.int .i64 C.parties, .slice hA C.holders.length hcp, .slice uA C.units.length ucp, .slice (some ⟨b, off, none⟩) C.acts.length acp, .slice kA C.clauses.length kcp, .int .i64 C.days, .slice oA C.off.length ocp] 27)).alloc (.cells #[.int .i64 s.day, .slice (some ⟨hb, hoff, none⟩) s.holders.length shc, .slice suA s.used.length suc, .slice smA s.marks.length smc] 43)) _ (w.heap.size + 1) (by simp)).trans ((by have h := heap_alloc_new (w.alloc (.cells #[.int .i64 C.parties, .slice hA C.holders.length hcp, .slice uA C.units.length ucp, .slice (some ⟨b, off, none⟩) C.acts.length acp, .slice kA C.clauses.length kcp, .int .i64 C.days, .slice oA C.off.length ocp] 27)) (.cells #[.int .i64 s.day, .slice (some ⟨hb, hoff, none⟩) s.holders.length shc, .slice suA s.used.length suc, .slice smA s.marks.length smc] 43); simp only [World.size_alloc] at h; exact h))
 have k1_0 : ∀ sB : Bl W0, sB.val.cell? ⟨w.heap.size + 1, 0, none⟩ = some (.int .i64 s.day) := fun sB => sB.cell ((cell_of_row W0 _ 0 _ _ _ hh1).trans rfl)
 have k1_1 : ∀ sB : Bl W0, sB.val.cell? ⟨w.heap.size + 1, 1, none⟩ = some (.slice (some ⟨hb, hoff, none⟩) s.holders.length shc) := fun sB => sB.cell ((cell_of_row W0 _ 1 _ _ _ hh1).trans rfl)
 have k1_2 : ∀ sB : Bl W0, sB.val.cell? ⟨w.heap.size + 1, 2, none⟩ = some (.slice suA s.used.length suc) := fun sB => sB.cell ((cell_of_row W0 _ 2 _ _ _ hh1).trans rfl)
 have k1_3 : ∀ sB : Bl W0, sB.val.cell? ⟨w.heap.size + 1, 3, none⟩ = some (.slice smA s.marks.length smc) := fun sB => sB.cell ((cell_of_row W0 _ 3 _ _ _ hh1).trans rfl)
 clear hh1
 have hh2 : W0.heap[w.heap.size + 1 + 1]? = some (.cells #[.int .i64 ki, .int .i64 ro, .int .i64 gi, .int .i64 tg, .int .i64 un, .int .i64 ln, .int .i64 ld] 67 (0, 0)) := by rw [HW0.out]; exact (by have h := heap_alloc_new ((w.alloc (.cells #[.int .i64 C.parties, .slice hA C.holders.length hcp, .slice uA C.units.length ucp, .slice (some ⟨b, off, none⟩) C.acts.length acp, .slice kA C.clauses.length kcp, .int .i64 C.days, .slice oA C.off.length ocp] 27)).alloc (.cells #[.int .i64 s.day, .slice (some ⟨hb, hoff, none⟩) s.holders.length shc, .slice suA s.used.length suc, .slice smA s.marks.length smc] 43)) (.cells #[.int .i64 ki, .int .i64 ro, .int .i64 gi, .int .i64 tg, .int .i64 un, .int .i64 ln, .int .i64 ld] 67); simp only [World.size_alloc] at h; exact h)
 have k2_0 : ∀ sB : Bl W0, sB.val.cell? ⟨w.heap.size + 1 + 1, 0, none⟩ = some (.int .i64 ki) := fun sB => sB.cell ((cell_of_row W0 _ 0 _ _ _ hh2).trans rfl)
 have k2_1 : ∀ sB : Bl W0, sB.val.cell? ⟨w.heap.size + 1 + 1, 1, none⟩ = some (.int .i64 ro) := fun sB => sB.cell ((cell_of_row W0 _ 1 _ _ _ hh2).trans rfl)
 have k2_2 : ∀ sB : Bl W0, sB.val.cell? ⟨w.heap.size + 1 + 1, 2, none⟩ = some (.int .i64 gi) := fun sB => sB.cell ((cell_of_row W0 _ 2 _ _ _ hh2).trans rfl)
 have k2_3 : ∀ sB : Bl W0, sB.val.cell? ⟨w.heap.size + 1 + 1, 3, none⟩ = some (.int .i64 tg) := fun sB => sB.cell ((cell_of_row W0 _ 3 _ _ _ hh2).trans rfl)
 have k2_4 : ∀ sB : Bl W0, sB.val.cell? ⟨w.heap.size + 1 + 1, 4, none⟩ = some (.int .i64 un) := fun sB => sB.cell ((cell_of_row W0 _ 4 _ _ _ hh2).trans rfl)
 have k2_5 : ∀ sB : Bl W0, sB.val.cell? ⟨w.heap.size + 1 + 1, 5, none⟩ = some (.int .i64 ln) := fun sB => sB.cell ((cell_of_row W0 _ 5 _ _ _ hh2).trans rfl)
 have k2_6 : ∀ sB : Bl W0, sB.val.cell? ⟨w.heap.size + 1 + 1, 6, none⟩ = some (.int .i64 ld) := fun sB => sB.cell ((cell_of_row W0 _ 6 _ _ _ hh2).trans rfl)
 clear hh2
 have HB : Hid (Below w.heap.size w W0) := by show Below _ _ _; rw [HW0.out]; exact Below.alloc' (Below.alloc' (Below.alloc' (Below.refl _ _) _) _) _
 rw [← HW0.out]
 change Code.wp _ _ _ _ (Bl.val (⟨W0, Below.refl _ _⟩ : Bl W0))
 generalize (⟨W0, Below.refl _ _⟩ : Bl W0) = s0
 clear c0 c1 c2 c3 c4 c5 c6
 have HHC : Hid (∀ x : Int, 0 ≤ x → x < (s.holders.length : Int) → ∀ z : Bl W0, z.val.cell? ⟨hb, hoff + x.toNat, none⟩ = some (.int .i64 (holderAt s.holders x))) := fun x h0 h1 z => by
  have hx : x.toNat < s.holders.length := by omega
  rw [(Below.step HB.out z.prop).cell (p := ⟨hb, hoff + x.toNat, none⟩) hhb, hhc _ (by omega)]
  simp [ints, holderAt, hx]
 clear hhc
 cases q1 : (ki == 1) with
 | false =>
  have q1_0 : (ki != 1) = true := by simpa using q1
  have hP : seesB s.holders ki ro tg pt = true := by unfold seesB; rw [q1]; rfl
  obtain rfl : E = true := by rw [← HE.out, hP]
  clear hP
  go_wp2
  go_ret
  exact ⟨rfl, Below.step HB.out (Bl.prop _)⟩
 | true =>
  have q1_0 : (ki != 1) = false := by simpa using q1
  cases q2 : (tg == -1) with
  | false =>
   have q2_0 : (tg != -1) = true := by simpa using q2
   obtain ⟨tg0, tg1⟩ := HTO.out (by assumption) (by assumption)
   have hto1 := HHC.out tg tg0 tg1
   cases q3 : (holderAt s.holders tg == pt) with
   | false =>
    cases q4 : (ro == -1) with
    | false =>
     have q4_0 : (ro != -1) = true := by simpa using q4
     obtain ⟨ro0, ro1⟩ := HRO.out (by assumption)
     have hro1 := HHC.out ro ro0 ro1
     cases q5 : (holderAt s.holders ro == pt) with
     | false =>
      have hP : seesB s.holders ki ro tg pt = false := by unfold seesB; rw [q1, q2, q3, q4, q5]; rfl
      obtain rfl : E = false := by rw [← HE.out, hP]
      clear hP
      go_wp2
      go_ret
      exact ⟨rfl, Below.step HB.out (Bl.prop _)⟩
     | true =>
      have hP : seesB s.holders ki ro tg pt = true := by unfold seesB; rw [q1, q2, q3, q4, q5]; rfl
      obtain rfl : E = true := by rw [← HE.out, hP]
      clear hP
      go_wp2
      go_ret
      exact ⟨rfl, Below.step HB.out (Bl.prop _)⟩
    | true =>
     have q4_0 : (ro != -1) = false := by simpa using q4
     have hP : seesB s.holders ki ro tg pt = false := by unfold seesB; rw [q1, q2, q3, q4]; rfl
     obtain rfl : E = false := by rw [← HE.out, hP]
     clear hP
     go_wp2
     go_ret
     exact ⟨rfl, Below.step HB.out (Bl.prop _)⟩
   | true =>
    have hP : seesB s.holders ki ro tg pt = true := by unfold seesB; rw [q1, q2, q3]; rfl
    obtain rfl : E = true := by rw [← HE.out, hP]
    clear hP
    go_wp2
    go_ret
    exact ⟨rfl, Below.step HB.out (Bl.prop _)⟩
  | true =>
   have q2_0 : (tg != -1) = false := by simpa using q2
   have hP : seesB s.holders ki ro tg pt = true := by unfold seesB; rw [q1, q2]; rfl
   obtain rfl : E = true := by rw [← HE.out, hP]
   clear hP
   go_wp2
   go_ret
   exact ⟨rfl, Below.step HB.out (Bl.prop _)⟩
end Go.Proofs.YtaielhafpmjkaaaGreatDoor
namespace Go.Proofs.YtaielhafpmjkaaaGreatDoor
open Go.RowKit
def br1 (C : KCon) (s : KState) (p : Int) : Bool := ((!decide (p < 0)) && ((!decide (C.parties ≤ p)) && (C.okState s)))
def failedBy (k : KClause) (m : KMark) (p : Int) : Bool := k.final && ((m.status == 4) && (m.bearer == p))
def anyFailed (C : KCon) (s : KState) (p : Int) : Bool := (List.range s.marks.length).any (fun i => match s.marks[i]?, C.clauses[i]? with | some m, some k => failedBy k m p | _, _ => false)
def KCon.breach (C : KCon) (s : KState) (p : Int) : Bool := br1 C s p && anyFailed C s p
theorem anyFailed_yes {C : KCon} {s : KState} {p : Int} {j : Nat} {m : KMark} {k : KClause} (hm : s.marks[j]? = some m) (hk : C.clauses[j]? = some k) (h : failedBy k m p = true) : anyFailed C s p = true := by
 unfold anyFailed
 rw [List.any_eq_true]
 exact ⟨j, by simpa using (List.getElem?_eq_some_iff.1 hm).1, by simp only [hm, hk, h]⟩
theorem anyFailed_no {C : KCon} {s : KState} {p : Int} (h : ∀ (j : Nat) (m : KMark) (k : KClause), s.marks[j]? = some m → C.clauses[j]? = some k → failedBy k m p = false) : anyFailed C s p = false := by
 unfold anyFailed
 rw [List.any_eq_false]
 intro i _
 cases e : s.marks[i]? with
 | none => simp
 | some u =>
  cases e2 : C.clauses[i]? with
  | none => simp
  | some a => simp [h i u a e e2]
theorem okState_len {C : KCon} {s : KState} (h : C.okState s = true) : s.holders.length = C.holders.length ∧ s.used.length = C.acts.length ∧ s.marks.length = C.clauses.length := by
 unfold KCon.okState at h
 simp only [Bool.and_eq_true] at h
 have h1 := h.2.1
 simp only [sv1, Bool.and_eq_true, beq_iff_eq] at h1
 omega
set_option maxRecDepth 100000 in
set_option maxHeartbeats 4000000 in
theorem breach_any (v : CV) (C : KCon) (tv : TV) (s : KState) (p : Int) (w : World) (hC : ConAt w v C) (hS : StateAt w tv s) : Calls Tryz.prog 27 #[v.val C, tv.val s, .int .i64 p] w (RetB (.bool (C.breach s p)) w) := by
 obtain ⟨⟨hA, hcp⟩, ⟨uA, ucp⟩, ⟨aA, acp⟩, ⟨kA, kcp⟩, ⟨oA, ocp⟩⟩ := v
 obtain ⟨⟨shA, shc⟩, ⟨suA, suc⟩, ⟨smA, smc⟩⟩ := tv
 have hmx : s.marks.length ≤ 9223372036854775807 := by have h1 := hS.marks.2.2.1; have h2 := hS.marks.2.2.2; unfold maxLen at h2; omega
 have HC := Lib.hid hC; clear hC
 have HS := Lib.hid hS; clear hS
 simp only [CV.val, CV.cells, TV.val, TV.cells, KState.cells]
 generalize hE : C.breach s p = E
 simp only [KCon.breach] at hE
 have HE := Lib.hid hE; clear hE
 go_enter Tryz.func27, Tryz.ntmps27
 go_upto_region 1 with (fail)
 obtain ⟨W0, HW0⟩ : ∃ W0, Hid (W0 = (w.alloc (.cells #[.int .i64 C.parties, .slice hA C.holders.length hcp, .slice uA C.units.length ucp, .slice aA C.acts.length acp, .slice kA C.clauses.length kcp, .int .i64 C.days, .slice oA C.off.length ocp] 27)).alloc (.cells #[.int .i64 s.day, .slice shA s.holders.length shc, .slice suA s.used.length suc, .slice smA s.marks.length smc] 43)) := ⟨_, rfl⟩
 have hh0 : W0.heap[w.heap.size]? = some (.cells #[.int .i64 C.parties, .slice hA C.holders.length hcp, .slice uA C.units.length ucp, .slice aA C.acts.length acp, .slice kA C.clauses.length kcp, .int .i64 C.days, .slice oA C.off.length ocp] 27 (0, 0)) := by rw [HW0.out]; exact (Below.heap_alloc (w.alloc (.cells #[.int .i64 C.parties, .slice hA C.holders.length hcp, .slice uA C.units.length ucp, .slice aA C.acts.length acp, .slice kA C.clauses.length kcp, .int .i64 C.days, .slice oA C.off.length ocp] 27)) _ (w.heap.size) (by simp)).trans (heap_alloc_new w (.cells #[.int .i64 C.parties, .slice hA C.holders.length hcp, .slice uA C.units.length ucp, .slice aA C.acts.length acp, .slice kA C.clauses.length kcp, .int .i64 C.days, .slice oA C.off.length ocp] 27))
 have k0_0 : ∀ sB : Bl W0, sB.val.cell? ⟨w.heap.size, 0, none⟩ = some (.int .i64 C.parties) := fun sB => sB.cell ((cell_of_row W0 _ 0 _ _ _ hh0).trans rfl)
 have k0_1 : ∀ sB : Bl W0, sB.val.cell? ⟨w.heap.size, 1, none⟩ = some (.slice hA C.holders.length hcp) := fun sB => sB.cell ((cell_of_row W0 _ 1 _ _ _ hh0).trans rfl)
 have k0_2 : ∀ sB : Bl W0, sB.val.cell? ⟨w.heap.size, 2, none⟩ = some (.slice uA C.units.length ucp) := fun sB => sB.cell ((cell_of_row W0 _ 2 _ _ _ hh0).trans rfl)
 have k0_3 : ∀ sB : Bl W0, sB.val.cell? ⟨w.heap.size, 3, none⟩ = some (.slice aA C.acts.length acp) := fun sB => sB.cell ((cell_of_row W0 _ 3 _ _ _ hh0).trans rfl)
 have k0_4 : ∀ sB : Bl W0, sB.val.cell? ⟨w.heap.size, 4, none⟩ = some (.slice kA C.clauses.length kcp) := fun sB => sB.cell ((cell_of_row W0 _ 4 _ _ _ hh0).trans rfl)
 have k0_5 : ∀ sB : Bl W0, sB.val.cell? ⟨w.heap.size, 5, none⟩ = some (.int .i64 C.days) := fun sB => sB.cell ((cell_of_row W0 _ 5 _ _ _ hh0).trans rfl)
 have k0_6 : ∀ sB : Bl W0, sB.val.cell? ⟨w.heap.size, 6, none⟩ = some (.slice oA C.off.length ocp) := fun sB => sB.cell ((cell_of_row W0 _ 6 _ _ _ hh0).trans rfl)
 clear hh0
 have hh1 : W0.heap[w.heap.size + 1]? = some (.cells #[.int .i64 s.day, .slice shA s.holders.length shc, .slice suA s.used.length suc, .slice smA s.marks.length smc] 43 (0, 0)) := by rw [HW0.out]; exact (by have h := heap_alloc_new (w.alloc (.cells #[.int .i64 C.parties, .slice hA C.holders.length hcp, .slice uA C.units.length ucp, .slice aA C.acts.length acp, .slice kA C.clauses.length kcp, .int .i64 C.days, .slice oA C.off.length ocp] 27)) (.cells #[.int .i64 s.day, .slice shA s.holders.length shc, .slice suA s.used.length suc, .slice smA s.marks.length smc] 43); simp only [World.size_alloc] at h; exact h)
 have k1_0 : ∀ sB : Bl W0, sB.val.cell? ⟨w.heap.size + 1, 0, none⟩ = some (.int .i64 s.day) := fun sB => sB.cell ((cell_of_row W0 _ 0 _ _ _ hh1).trans rfl)
 have k1_1 : ∀ sB : Bl W0, sB.val.cell? ⟨w.heap.size + 1, 1, none⟩ = some (.slice shA s.holders.length shc) := fun sB => sB.cell ((cell_of_row W0 _ 1 _ _ _ hh1).trans rfl)
 have k1_2 : ∀ sB : Bl W0, sB.val.cell? ⟨w.heap.size + 1, 2, none⟩ = some (.slice suA s.used.length suc) := fun sB => sB.cell ((cell_of_row W0 _ 2 _ _ _ hh1).trans rfl)
 have k1_3 : ∀ sB : Bl W0, sB.val.cell? ⟨w.heap.size + 1, 3, none⟩ = some (.slice smA s.marks.length smc) := fun sB => sB.cell ((cell_of_row W0 _ 3 _ _ _ hh1).trans rfl)
 clear hh1
 have HB : Hid (Below w.heap.size w W0) := by show Below _ _ _; rw [HW0.out]; exact Below.alloc' (Below.alloc' (Below.refl _ _) _) _
 rw [← HW0.out]
 change Code.wp _ _ _ _ (Bl.val (⟨W0, Below.refl _ _⟩ : Bl W0))
 generalize (⟨W0, Below.refl _ _⟩ : Bl W0) = s0
 have hw2 : W0.heap.size = w.heap.size + 1 + 1 := by rw [HW0.out]; simp
 have HW2 := Lib.hid hw2; clear hw2
 have hsv : ∀ z : Bl W0, Calls Tryz.prog 19 #[.agg #[.int .i64 C.parties, .slice hA C.holders.length hcp, .slice uA C.units.length ucp, .slice aA C.acts.length acp, .slice kA C.clauses.length kcp, .int .i64 C.days, .slice oA C.off.length ocp], .agg #[.int .i64 s.day, .slice shA s.holders.length shc, .slice suA s.used.length suc, .slice smA s.marks.length smc]] z.val (RetB (.bool (C.okState s)) z.val) := fun z => stateValid_any (⟨⟨hA, hcp⟩, ⟨uA, ucp⟩, ⟨aA, acp⟩, ⟨kA, kcp⟩, ⟨oA, ocp⟩⟩ : CV) C (⟨⟨shA, shc⟩, ⟨suA, suc⟩, ⟨smA, smc⟩⟩ : TV) s z.val (HC.out.below (Below.step HB.out z.prop)) (HS.out.below (Below.step HB.out z.prop))
 have HSV := Lib.hid hsv; clear hsv
 focus
  cases q1 : decide (p < 0)
  focus
   cases q2 : decide (C.parties ≤ p)
   focus
    cases q3 : (C.okState s)
    focus
     have hP : br1 C s p = false := by unfold br1; rw [q1, q2, q3]; rfl
     obtain rfl : E = false := by rw [← HE.out, hP]; rfl
     clear hP
    rotate_left
    focus
     have hP : br1 C s p = true := by unfold br1; rw [q1, q2, q3]; rfl
     have HP1 := Lib.hid hP; clear hP
     have hmm := (okState_len (by assumption : C.okState s = true)).2.2
     have HMM := Lib.hid hmm; clear hmm
     go_wp2_with fail
     refine (HSV.out _).mono ?_
     rintro e z ⟨rfl, hz⟩
     obtain ⟨z1, rfl⟩ := Bl.on hz
     clear hz
     go_wp2
     go_loopg [26] s.marks.length (fun gk v26 wr => ∃ (j : Nat) (z : Bl W0), gk = s.marks.length - j ∧ j ≤ s.marks.length ∧ v26 = .int .i64 j ∧ wr = z.val ∧ Hid (∀ (i : Nat) (m : KMark) (k : KClause), i < j → s.marks[i]? = some m → C.clauses[i]? = some k → failedBy k m p = false))
     case atStart => exact ⟨0, _, rfl, Nat.zero_le _, rfl, rfl, fun i m k h => by omega⟩
     case round =>
      obtain ⟨j, z, hgk, hj, rfl, rfl, hpre⟩ := hrel
      have HGK := Lib.hid hgk; clear hgk
      by_cases hlt : j < s.marks.length
      · obtain ⟨m, hm⟩ : ∃ m, s.marks[j]? = some m := ⟨s.marks[j], List.getElem?_eq_getElem hlt⟩
        obtain ⟨k, hk⟩ : ∃ k, C.clauses[j]? = some k := ⟨C.clauses[j]'(by rw [← HMM.out]; exact hlt), List.getElem?_eq_getElem _⟩
        obtain ⟨b, off, hA0, hbl, hcell⟩ := HS.out.mark hm
        obtain ⟨b2, off2, st, hA1, hb2, hcell2, _⟩ := HC.out.clause hk
        simp only at hA0 hA1
        subst hA0 hA1
        have hmc := hcell j m hm z.val (Below.step HB.out z.prop)
        have c8 : z.val.cell? ⟨b2, off2 + j * 16 + 8, none⟩ = some (.bool k.final) := hcell2 z.val (Below.step HB.out z.prop) 8 (by omega)
        clear hcell hcell2
        have HM := Lib.hid hm; clear hm
        have HK := Lib.hid hk; clear hk
        have hfb : failedBy k m p = (k.final && ((m.status == 4) && (m.bearer == p))) := rfl
        obtain ⟨ms, ml, mg, mb, mp⟩ := m
        simp only at hfb
        have e0 : z.val.cell? ⟨b, off + j * 5, none⟩ = some (.int .i64 ms) := hmc 0 (by omega)
        have e1 : z.val.cell? ⟨b, off + j * 5 + 1, none⟩ = some (.int .i64 ml) := hmc 1 (by omega)
        have e2 : z.val.cell? ⟨b, off + j * 5 + 2, none⟩ = some (.int .i64 mg) := hmc 2 (by omega)
        have e3 : z.val.cell? ⟨b, off + j * 5 + 3, none⟩ = some (.int .i64 mb) := hmc 3 (by omega)
        have e4 : z.val.cell? ⟨b, off + j * 5 + 4, none⟩ = some (.bool mp) := hmc 4 (by omega)
        clear hmc
        generalize hkf : k.final = kf at c8 hfb
        have HKF := Lib.hid hkf; clear hkf
        have HFB := Lib.hid hfb; clear hfb
        have hl0 : w.heap.size < z.val.heap.size := by have h1 := z.prop.size; have h2 := HW2.out; omega
        have hl1 : w.heap.size + 1 < z.val.heap.size := by have h1 := z.prop.size; have h2 := HW2.out; omega
        have hl2 : b2 < z.val.heap.size := by have h1 := (Below.step HB.out z.prop).size; omega
        have j0 : (0 : Int) ≤ (j : Int) := by omega
        have j1 : (j : Int) < (s.marks.length : Int) := by omega
        have j2 : (j : Int) < (C.clauses.length : Int) := by have h := HMM.out; omega
        cases r1 : kf with
        | false =>
         have HN : Hid (failedBy k ⟨ms, ml, mg, mb, mp⟩ p = false) := by show _ = _; rw [HFB.out, r1]; rfl
         go_wp2
         go_roundg (s.marks.length - (j + 1))
         case measure => rw [HGK.out]; omega
         case rel => exact ⟨j + 1, ⟨_, Below.alloc' z.prop _⟩, rfl, by omega, by go_num, rfl, fun i m' k' hi hx hy => by
          by_cases e : i = j
          · subst e
            rw [HM.out] at hx
            rw [HK.out] at hy
            injection hx with hx
            injection hy with hy
            subst hx hy
            exact HN.out
          · exact hpre.out i m' k' (by omega) hx hy⟩
        | true =>
         cases r2 : (ms == 4) with
         | false =>
          have r2_0 : (ms != 4) = true := by simpa using r2
          have HN : Hid (failedBy k ⟨ms, ml, mg, mb, mp⟩ p = false) := by show _ = _; rw [HFB.out, r1, r2]; rfl
          go_wp2
          go_roundg (s.marks.length - (j + 1))
          case measure => rw [HGK.out]; omega
          case rel => exact ⟨j + 1, ⟨_, Below.alloc' z.prop _⟩, rfl, by omega, by go_num, rfl, fun i m' k' hi hx hy => by
           by_cases e : i = j
           · subst e
             rw [HM.out] at hx
             rw [HK.out] at hy
             injection hx with hx
             injection hy with hy
             subst hx hy
             exact HN.out
           · exact hpre.out i m' k' (by omega) hx hy⟩
         | true =>
          have r2_0 : (ms != 4) = false := by simpa using r2
          cases r3 : (mb == p) with
          | false =>
           have r3_0 : (mb != p) = true := by simpa using r3
           have HN : Hid (failedBy k ⟨ms, ml, mg, mb, mp⟩ p = false) := by show _ = _; rw [HFB.out, r1, r2, r3]; rfl
           go_wp2
           go_roundg (s.marks.length - (j + 1))
           case measure => rw [HGK.out]; omega
           case rel => exact ⟨j + 1, ⟨_, Below.alloc' z.prop _⟩, rfl, by omega, by go_num, rfl, fun i m' k' hi hx hy => by
            by_cases e : i = j
            · subst e
              rw [HM.out] at hx
              rw [HK.out] at hy
              injection hx with hx
              injection hy with hy
              subst hx hy
              exact HN.out
            · exact hpre.out i m' k' (by omega) hx hy⟩
          | true =>
           have r3_0 : (mb != p) = false := by simpa using r3
           obtain rfl : E = true := by rw [← HE.out, HP1.out, anyFailed_yes HM.out HK.out (by rw [HFB.out, r1, r2, r3]; rfl)]; rfl
           go_wp2
           go_ret
           exact ⟨rfl, Below.step HB.out (Below.alloc' z.prop _)⟩
      · obtain rfl : j = s.marks.length := by omega
        obtain rfl : E = false := by rw [← HE.out, HP1.out, anyFailed_no (fun i m k hx hy => hpre.out i m k (List.getElem?_eq_some_iff.1 hx).1 hx hy)]; rfl
        go_wp2
        go_ret
        exact ⟨rfl, Below.step HB.out (Bl.prop _)⟩
   rotate_left
   focus
    have hP : br1 C s p = false := by unfold br1; rw [q1, q2]; rfl
    obtain rfl : E = false := by rw [← HE.out, hP]; rfl
    clear hP
  rotate_left 2
  focus
   have hP : br1 C s p = false := by unfold br1; rw [q1]; rfl
   obtain rfl : E = false := by rw [← HE.out, hP]; rfl
   clear hP
  all_goals
   go_wp2_with (first | (go_at_call 19; refine (HSV.out _).mono ?_; rintro e z ⟨rfl, hz⟩; obtain ⟨z, rfl⟩ := Bl.on hz; clear hz))
   first
    | (go_ret; exact ⟨rfl, Below.step HB.out (Bl.prop _)⟩)
    | (refine wp_region_bl (by kernel_rfl) (by kernel_rfl) ?_; (repeat (go_big_quiet_step ((first | (go_at_call 19; exact Calls.bl_of (HSV.out _)))))); refine wpQuiet_nil ?_; rintro _ ⟨zq, rfl⟩; go_wp2_with (first | (go_at_call 19; refine (HSV.out _).mono ?_; rintro e z ⟨rfl, hz⟩; obtain ⟨z, rfl⟩ := Bl.on hz; clear hz)); go_ret; exact ⟨rfl, Below.step HB.out (Bl.prop _)⟩)
end Go.Proofs.YtaielhafpmjkaaaGreatDoor
namespace Go.Proofs.YtaielhafpmjkaaaGreatDoor
open Go.RowKit
def StatesAt (w : World) (v : SV) (l : List KState) : Prop :=
 ∃ ts : List TV, ts.length = l.length ∧ At w 4 v.A l.length v.c ((l.zip ts).flatMap (fun p => TV.cells p.2 p.1)) ∧ ∀ (i : Nat) (s : KState) (t : TV), l[i]? = some s → ts[i]? = some t → StateAt w t s
theorem StatesAt.below {w w' : World} {v : SV} {l : List KState} (h : StatesAt w v l) (hb : Below w.heap.size w w') : StatesAt w' v l := by
 obtain ⟨ts, h1, h2, h3⟩ := h
 exact ⟨ts, h1, h2.below (by omega) hb, fun i s t hs ht => (h3 i s t hs ht).below hb⟩
theorem StatesAt.form {w : World} {v : SV} {l : List KState} (h : StatesAt w v l) (hl : 0 < l.length) :
 ∃ b off, v.A = some ⟨b, off, none⟩ ∧ b < w.heap.size ∧ ∀ (i : Nat) (s : KState), l[i]? = some s → ∃ t : TV, StateAt w t s ∧ ∀ W, Below w.heap.size w W → ∀ j, j < 4 → W.cell? ⟨b, off + i * 4 + j, none⟩ = (t.cells s)[j]? := by
 obtain ⟨ts, h1, h2, h3⟩ := h
 obtain ⟨b, off, hA, hb, hc⟩ := h2.1.form hl (by omega)
 refine ⟨b, off, hA, hb, fun i s hs => ?_⟩
 have hi : i < l.length := (List.getElem?_eq_some_iff.1 hs).1
 have ht : ts[i]? = some (ts[i]'(by omega)) := List.getElem?_eq_getElem _
 refine ⟨ts[i]'(by omega), h3 i s _ hs ht, fun W hW j hj => ?_⟩
 rw [hW.cell (p := ⟨b, off + i * 4 + j, none⟩) hb, Nat.add_assoc, hc _ (by omega)]
 have hz : (l.zip ts)[i]? = some (s, ts[i]'(by omega)) := by rw [List.getElem?_zip_eq_some]; exact ⟨hs, ht⟩
 exact get_flat (fun p : KState × TV => TV.cells p.2 p.1) 4 (fun _ => rfl) (l.zip ts) i j _ hz hj
theorem StatesAt.len {w : World} {v : SV} {l : List KState} (h : StatesAt w v l) : l.length ≤ v.c ∧ v.c ≤ 9223372036854775807 := by
 obtain ⟨ts, h1, h2, h3⟩ := h
 have h4 := h2.2.2.1
 have h5 := h2.2.2.2
 unfold maxLen at h5
 omega
def bv1 (C : KCon) (pt : Int) (ss : List KState) : Bool := ((!decide (pt < 0)) && ((!decide (C.parties ≤ pt)) && ((!((ss.length : Int) == 0)) && (!decide (300 < (ss.length : Int))))))
def allOk (C : KCon) (ss : List KState) : Bool := ss.all (fun s => C.okState s)
def KCon.okBelief (C : KCon) (b : KBelief) : Bool := bv1 C b.party b.states && allOk C b.states
theorem allOk_bad {C : KCon} {ss : List KState} {j : Nat} {x : KState} (hx : ss[j]? = some x) (h : C.okState x = false) : allOk C ss = false := by
 cases e : allOk C ss with
 | false => rfl
 | true =>
  unfold allOk at e
  rw [List.all_eq_true.1 e x (List.mem_of_getElem? hx)] at h
  cases h
theorem allOk_all {C : KCon} {ss : List KState} (h : ∀ (j : Nat) (x : KState), ss[j]? = some x → C.okState x = true) : allOk C ss = true := by
 unfold allOk
 rw [List.all_eq_true]
 intro x hx
 obtain ⟨j, hj⟩ := List.getElem?_of_mem hx
 exact h j x hj
set_option maxRecDepth 100000 in
set_option maxHeartbeats 4000000 in
theorem beliefValid_any (v : CV) (C : KCon) (sv : SV) (b : KBelief) (w : World) (hC : ConAt w v C) (hS : StatesAt w sv b.states) : Calls Tryz.prog 35 #[v.val C, .agg #[.int .i64 b.party, .slice sv.A b.states.length sv.c]] w (RetB (.bool (C.okBelief b)) w) := by
 obtain ⟨⟨hA, hcp⟩, ⟨uA, ucp⟩, ⟨aA, acp⟩, ⟨kA, kcp⟩, ⟨oA, ocp⟩⟩ := v
 obtain ⟨bA, bc⟩ := sv
 obtain ⟨pt, ss⟩ := b
 simp only at hS ⊢
 obtain ⟨hlx1, hlx2⟩ := hS.len
 simp only at hlx1 hlx2
 have HC := Lib.hid hC; clear hC
 have HS := Lib.hid hS; clear hS
 simp only [CV.val, CV.cells]
 generalize hE : C.okBelief ⟨pt, ss⟩ = E
 simp only [KCon.okBelief] at hE
 have HE := Lib.hid hE; clear hE
 go_enter Tryz.func35, Tryz.ntmps35
 go_upto_region 1 with (fail)
 obtain ⟨W0, HW0⟩ : ∃ W0, Hid (W0 = (w.alloc (.cells #[.int .i64 C.parties, .slice hA C.holders.length hcp, .slice uA C.units.length ucp, .slice aA C.acts.length acp, .slice kA C.clauses.length kcp, .int .i64 C.days, .slice oA C.off.length ocp] 27)).alloc (.cells #[.int .i64 pt, .slice bA ss.length bc] 30)) := ⟨_, rfl⟩
 have hh0 : W0.heap[w.heap.size]? = some (.cells #[.int .i64 C.parties, .slice hA C.holders.length hcp, .slice uA C.units.length ucp, .slice aA C.acts.length acp, .slice kA C.clauses.length kcp, .int .i64 C.days, .slice oA C.off.length ocp] 27 (0, 0)) := by rw [HW0.out]; exact (Below.heap_alloc (w.alloc (.cells #[.int .i64 C.parties, .slice hA C.holders.length hcp, .slice uA C.units.length ucp, .slice aA C.acts.length acp, .slice kA C.clauses.length kcp, .int .i64 C.days, .slice oA C.off.length ocp] 27)) _ (w.heap.size) (by simp)).trans (heap_alloc_new w (.cells #[.int .i64 C.parties, .slice hA C.holders.length hcp, .slice uA C.units.length ucp, .slice aA C.acts.length acp, .slice kA C.clauses.length kcp, .int .i64 C.days, .slice oA C.off.length ocp] 27))
 have k0_0 : ∀ sB : Bl W0, sB.val.cell? ⟨w.heap.size, 0, none⟩ = some (.int .i64 C.parties) := fun sB => sB.cell ((cell_of_row W0 _ 0 _ _ _ hh0).trans rfl)
 have k0_1 : ∀ sB : Bl W0, sB.val.cell? ⟨w.heap.size, 1, none⟩ = some (.slice hA C.holders.length hcp) := fun sB => sB.cell ((cell_of_row W0 _ 1 _ _ _ hh0).trans rfl)
 have k0_2 : ∀ sB : Bl W0, sB.val.cell? ⟨w.heap.size, 2, none⟩ = some (.slice uA C.units.length ucp) := fun sB => sB.cell ((cell_of_row W0 _ 2 _ _ _ hh0).trans rfl)
 have k0_3 : ∀ sB : Bl W0, sB.val.cell? ⟨w.heap.size, 3, none⟩ = some (.slice aA C.acts.length acp) := fun sB => sB.cell ((cell_of_row W0 _ 3 _ _ _ hh0).trans rfl)
 have k0_4 : ∀ sB : Bl W0, sB.val.cell? ⟨w.heap.size, 4, none⟩ = some (.slice kA C.clauses.length kcp) := fun sB => sB.cell ((cell_of_row W0 _ 4 _ _ _ hh0).trans rfl)
 have k0_5 : ∀ sB : Bl W0, sB.val.cell? ⟨w.heap.size, 5, none⟩ = some (.int .i64 C.days) := fun sB => sB.cell ((cell_of_row W0 _ 5 _ _ _ hh0).trans rfl)
 have k0_6 : ∀ sB : Bl W0, sB.val.cell? ⟨w.heap.size, 6, none⟩ = some (.slice oA C.off.length ocp) := fun sB => sB.cell ((cell_of_row W0 _ 6 _ _ _ hh0).trans rfl)
 clear hh0
 have hh1 : W0.heap[w.heap.size + 1]? = some (.cells #[.int .i64 pt, .slice bA ss.length bc] 30 (0, 0)) := by rw [HW0.out]; exact (by have h := heap_alloc_new (w.alloc (.cells #[.int .i64 C.parties, .slice hA C.holders.length hcp, .slice uA C.units.length ucp, .slice aA C.acts.length acp, .slice kA C.clauses.length kcp, .int .i64 C.days, .slice oA C.off.length ocp] 27)) (.cells #[.int .i64 pt, .slice bA ss.length bc] 30); simp only [World.size_alloc] at h; exact h)
 have k1_0 : ∀ sB : Bl W0, sB.val.cell? ⟨w.heap.size + 1, 0, none⟩ = some (.int .i64 pt) := fun sB => sB.cell ((cell_of_row W0 _ 0 _ _ _ hh1).trans rfl)
 have k1_1 : ∀ sB : Bl W0, sB.val.cell? ⟨w.heap.size + 1, 1, none⟩ = some (.slice bA ss.length bc) := fun sB => sB.cell ((cell_of_row W0 _ 1 _ _ _ hh1).trans rfl)
 clear hh1
 have HB : Hid (Below w.heap.size w W0) := by show Below _ _ _; rw [HW0.out]; exact Below.alloc' (Below.alloc' (Below.refl _ _) _) _
 rw [← HW0.out]
 change Code.wp _ _ _ _ (Bl.val (⟨W0, Below.refl _ _⟩ : Bl W0))
 generalize (⟨W0, Below.refl _ _⟩ : Bl W0) = s0
 have hw2 : W0.heap.size = w.heap.size + 1 + 1 := by rw [HW0.out]; simp
 have HW2 := Lib.hid hw2; clear hw2
 cases q1 : decide (pt < 0) with
 | false =>
  cases q2 : decide (C.parties ≤ pt) with
  | false =>
   cases q3 : ((ss.length : Int) == 0) with
   | false =>
    cases q4 : decide (300 < (ss.length : Int)) with
    | false =>
     have hP : bv1 C pt ss = true := by unfold bv1; rw [q1, q2, q3, q4]; rfl
     have HP1 := Lib.hid hP; clear hP
     go_wp2
     go_loopg [32] ss.length (fun gk v32 wr => ∃ (j : Nat) (z : Bl W0), gk = ss.length - j ∧ j ≤ ss.length ∧ v32 = .int .i64 j ∧ wr = z.val ∧ Hid (∀ (i : Nat) (x : KState), i < j → ss[i]? = some x → C.okState x = true))
     case atStart => exact ⟨0, _, rfl, Nat.zero_le _, rfl, rfl, fun i x h => by omega⟩
     case round =>
      obtain ⟨j, z, hgk, hj, rfl, rfl, hpre⟩ := hrel
      have HGK := Lib.hid hgk; clear hgk
      by_cases hlt : j < ss.length
      · obtain ⟨s, hs⟩ : ∃ s, ss[j]? = some s := ⟨ss[j], List.getElem?_eq_getElem hlt⟩
        obtain ⟨b, off, hA0, hbl, hcell⟩ := HS.out.form (by omega)
        simp only at hA0
        subst hA0
        obtain ⟨tv, hst, hcw0⟩ := hcell j s hs
        have hcw := hcw0 z.val (Below.step HB.out z.prop)
        clear hcell hcw0
        have hca : ∀ y : Bl W0, Calls Tryz.prog 19 #[.agg #[.int .i64 C.parties, .slice hA C.holders.length hcp, .slice uA C.units.length ucp, .slice aA C.acts.length acp, .slice kA C.clauses.length kcp, .int .i64 C.days, .slice oA C.off.length ocp], .agg #[.int .i64 s.day, .slice tv.h.A s.holders.length tv.h.c, .slice tv.u.A s.used.length tv.u.c, .slice tv.m.A s.marks.length tv.m.c]] y.val (RetB (.bool (C.okState s)) y.val) := fun y => stateValid_any (⟨⟨hA, hcp⟩, ⟨uA, ucp⟩, ⟨aA, acp⟩, ⟨kA, kcp⟩, ⟨oA, ocp⟩⟩ : CV) C tv s y.val (HC.out.below (Below.step HB.out y.prop)) (hst.below (Below.step HB.out y.prop))
        clear hst
        generalize hv : C.okState s = vv at hca
        have HV := Lib.hid hv; clear hv
        have HSJ := Lib.hid hs; clear hs
        have e0 : z.val.cell? ⟨b, off + j * 4, none⟩ = some (.int .i64 s.day) := hcw 0 (by omega)
        have e1 : z.val.cell? ⟨b, off + j * 4 + 1, none⟩ = some (.slice tv.h.A s.holders.length tv.h.c) := hcw 1 (by omega)
        have e2 : z.val.cell? ⟨b, off + j * 4 + 2, none⟩ = some (.slice tv.u.A s.used.length tv.u.c) := hcw 2 (by omega)
        have e3 : z.val.cell? ⟨b, off + j * 4 + 3, none⟩ = some (.slice tv.m.A s.marks.length tv.m.c) := hcw 3 (by omega)
        clear hcw
        have hl0 : w.heap.size < z.val.heap.size := by have h1 := z.prop.size; have h2 := HW2.out; omega
        have hl1 : w.heap.size + 1 < z.val.heap.size := by have h1 := z.prop.size; have h2 := HW2.out; omega
        have j1 : (j : Int) < (ss.length : Int) := by omega
        have HCA := Lib.hid hca; clear hca
        go_wp2_with fail
        have HZ : Hid (Calls Tryz.prog 19 #[.agg #[.int .i64 C.parties, .slice hA C.holders.length hcp, .slice uA C.units.length ucp, .slice aA C.acts.length acp, .slice kA C.clauses.length kcp, .int .i64 C.days, .slice oA C.off.length ocp], .agg #[.int .i64 s.day, .slice tv.h.A s.holders.length tv.h.c, .slice tv.u.A s.used.length tv.u.c, .slice tv.m.A s.marks.length tv.m.c]] (z.val.alloc (.cells #[.int .i64 s.day, .slice tv.h.A s.holders.length tv.h.c, .slice tv.u.A s.used.length tv.u.c, .slice tv.m.A s.marks.length tv.m.c] 43)) (RetB (.bool vv) (z.val.alloc (.cells #[.int .i64 s.day, .slice tv.h.A s.holders.length tv.h.c, .slice tv.u.A s.used.length tv.u.c, .slice tv.m.A s.marks.length tv.m.c] 43)))) := HCA.out ⟨_, Below.alloc' z.prop _⟩
        refine HZ.out.mono ?_
        rintro e y ⟨rfl, hy⟩
        obtain ⟨y1, rfl⟩ : ∃ y1 : Bl W0, y = y1.val := ⟨⟨y, Below.step (Below.alloc' z.prop _) hy⟩, rfl⟩
        clear hy HZ
        cases vv with
        | false =>
         obtain rfl : E = false := by rw [← HE.out, HP1.out, allOk_bad HSJ.out HV.out]; rfl
         go_wp2
         go_ret
         exact ⟨rfl, Below.step HB.out (Bl.prop _)⟩
        | true =>
         go_wp2
         go_roundg (ss.length - (j + 1))
         case measure => rw [HGK.out]; omega
         case rel => exact ⟨j + 1, y1, rfl, by omega, by go_num, rfl, fun i x hi hx => by
          by_cases e : i = j
          · subst e
            rw [HSJ.out] at hx
            injection hx with hx
            subst hx
            exact HV.out
          · exact hpre.out i x (by omega) hx⟩
      · obtain rfl : j = ss.length := by omega
        obtain rfl : E = true := by rw [← HE.out, HP1.out, allOk_all (fun i x hx => hpre.out i x (List.getElem?_eq_some_iff.1 hx).1 hx)]; rfl
        go_wp2
        go_ret
        exact ⟨rfl, Below.step HB.out (Bl.prop _)⟩
    | true =>
     have hP : bv1 C pt ss = false := by unfold bv1; rw [q1, q2, q3, q4]; rfl
     obtain rfl : E = false := by rw [← HE.out, hP]; rfl
     clear hP
     go_wp2
     go_ret
     exact ⟨rfl, Below.step HB.out (Bl.prop _)⟩
   | true =>
    have hP : bv1 C pt ss = false := by unfold bv1; rw [q1, q2, q3]; rfl
    obtain rfl : E = false := by rw [← HE.out, hP]; rfl
    clear hP
    go_wp2
    go_ret
    exact ⟨rfl, Below.step HB.out (Bl.prop _)⟩
  | true =>
   have hP : bv1 C pt ss = false := by unfold bv1; rw [q1, q2]; rfl
   obtain rfl : E = false := by rw [← HE.out, hP]; rfl
   clear hP
   go_wp2
   go_ret
   exact ⟨rfl, Below.step HB.out (Bl.prop _)⟩
 | true =>
  have hP : bv1 C pt ss = false := by unfold bv1; rw [q1]; rfl
  obtain rfl : E = false := by rw [← HE.out, hP]; rfl
  clear hP
  go_wp2
  go_ret
  exact ⟨rfl, Below.step HB.out (Bl.prop _)⟩
def meaningI (x : Int) : Int := cond (x == 3) 1 (cond (x == 5) 1 (cond (x == 4) 3 (cond (x == 0) 2 (cond (x == 1) 2 (cond (x == 2) 2 0)))))
set_option maxHeartbeats 1000000 in
theorem meaning_any (x : Int) (w : World) : Calls Tryz.prog 38 #[.int .i64 x] w (RetB (.int .i64 (meaningI x)) w) := by
 generalize hE : meaningI x = E
 cases h3 : (x == 3) with
 | true =>
  obtain rfl : E = 1 := by rw [← hE]; unfold meaningI; rw [h3]; rfl
  go_enter Tryz.func38, Tryz.ntmps38
  go_wp2
  go_ret
  exact ⟨rfl, Below.refl _ _⟩
 | false =>
  cases h5 : (x == 5) with
  | true =>
   obtain rfl : E = 1 := by rw [← hE]; unfold meaningI; rw [h3, h5]; rfl
   go_enter Tryz.func38, Tryz.ntmps38
   go_wp2
   go_ret
   exact ⟨rfl, Below.refl _ _⟩
  | false =>
   cases h4 : (x == 4) with
   | true =>
    obtain rfl : E = 3 := by rw [← hE]; unfold meaningI; rw [h3, h5, h4]; rfl
    go_enter Tryz.func38, Tryz.ntmps38
    go_wp2
    go_ret
    exact ⟨rfl, Below.refl _ _⟩
   | false =>
    cases h0 : (x == 0) with
    | true =>
     obtain rfl : E = 2 := by rw [← hE]; unfold meaningI; rw [h3, h5, h4, h0]; rfl
     go_enter Tryz.func38, Tryz.ntmps38
     go_wp2
     go_ret
     exact ⟨rfl, Below.refl _ _⟩
    | false =>
     cases h1 : (x == 1) with
     | true =>
      obtain rfl : E = 2 := by rw [← hE]; unfold meaningI; rw [h3, h5, h4, h0, h1]; rfl
      go_enter Tryz.func38, Tryz.ntmps38
      go_wp2
      go_ret
      exact ⟨rfl, Below.refl _ _⟩
     | false =>
      cases h2 : (x == 2) with
      | true =>
       obtain rfl : E = 2 := by rw [← hE]; unfold meaningI; rw [h3, h5, h4, h0, h1, h2]; rfl
       go_enter Tryz.func38, Tryz.ntmps38
       go_wp2
       go_ret
       exact ⟨rfl, Below.refl _ _⟩
      | false =>
       obtain rfl : E = 0 := by rw [← hE]; unfold meaningI; rw [h3, h5, h4, h0, h1, h2]; rfl
       go_enter Tryz.func38, Tryz.ntmps38
       go_wp2
       go_ret
       exact ⟨rfl, Below.refl _ _⟩
end Go.Proofs.YtaielhafpmjkaaaGreatDoor
namespace Go.Proofs.YtaielhafpmjkaaaGreatDoor
open Go.RowKit
set_option maxRecDepth 100000 in
set_option maxHeartbeats 1000000 in
theorem verdict1_any (tv : TV) (s : KState) (p : Nat) (c : Int) (w : World) (hS : StateAt w tv s) (hp : w.cell? ⟨p, 0, none⟩ = some (.int .i64 c)) (h0 : 0 ≤ c) (h1 : c < s.marks.length) :
 Calls Tryz.prog 37 #[tv.val s, .pointer (some ⟨p, 0, none⟩)] w (RetB (.int .i64 (meaningI (statusAt s.marks c))) w) := by
 obtain ⟨m, hm⟩ : ∃ m, s.marks[c.toNat]? = some m := ⟨s.marks[c.toNat]'(by omega), List.getElem?_eq_getElem _⟩
 obtain ⟨b, off, hM0, hmb, hmc⟩ := hS.mark hm
 obtain ⟨⟨shA, shc⟩, ⟨suA, suc⟩, ⟨smA, smc⟩⟩ := tv
 simp only at hM0
 subst hM0
 have m0 : w.cell? ⟨b, off + c.toNat * 5, none⟩ = some (.int .i64 (statusAt s.marks c)) := by
  have h := hmc c.toNat m hm w (Below.refl _ _) 0 (by omega)
  rw [Nat.add_zero] at h
  rw [h]
  simp [KMark.cells, statusAt, hm]
 clear hmc hS hm
 have hpl := World.block_lt_of_cell? w ⟨p, 0, none⟩ hp
 simp only at hpl
 have hmn := meaning_any (statusAt s.marks c)
 generalize statusAt s.marks c = st at *
 generalize meaningI st = r at *
 have HMN := Lib.hid hmn; clear hmn
 simp only [TV.val, TV.cells, KState.cells]
 go_enter Tryz.func37, Tryz.ntmps37
 go_wp2_with (go_at_call 38; refine (HMN.out _).mono ?_; rintro e z ⟨rfl, hz⟩)
 go_ret
 exact ⟨rfl, Below.step (Below.alloc' (Below.refl _ _) _) hz⟩
def blameI (b : Bool) : Int := cond b 3 2
set_option maxRecDepth 100000 in
set_option maxHeartbeats 1000000 in
theorem blames1_any (v : CV) (C : KCon) (tv : TV) (s : KState) (p q : Nat) (pt : Int) (w : World) (hC : ConAt w v C) (hS : StateAt w tv s)
 (hp0 : w.cell? ⟨p, 0, none⟩ = some (.int .i64 C.parties)) (hp1 : w.cell? ⟨p, 1, none⟩ = some (.slice v.h.A C.holders.length v.h.c)) (hp2 : w.cell? ⟨p, 2, none⟩ = some (.slice v.u.A C.units.length v.u.c)) (hp3 : w.cell? ⟨p, 3, none⟩ = some (.slice v.a.A C.acts.length v.a.c)) (hp4 : w.cell? ⟨p, 4, none⟩ = some (.slice v.k.A C.clauses.length v.k.c)) (hp5 : w.cell? ⟨p, 5, none⟩ = some (.int .i64 C.days)) (hp6 : w.cell? ⟨p, 6, none⟩ = some (.slice v.o.A C.off.length v.o.c))
 (hq : w.cell? ⟨q, 0, none⟩ = some (.int .i64 pt)) :
 Calls Tryz.prog 40 #[tv.val s, .pointer (some ⟨p, 0, none⟩), .pointer (some ⟨q, 0, none⟩)] w (RetB (.int .i64 (blameI (C.breach s pt))) w) := by
 have hpl := World.block_lt_of_cell? w ⟨p, 0, none⟩ hp0
 have hql := World.block_lt_of_cell? w ⟨q, 0, none⟩ hq
 simp only at hpl hql
 have hbr : ∀ W, Below w.heap.size w W → Calls Tryz.prog 27 #[.agg #[.int .i64 C.parties, .slice v.h.A C.holders.length v.h.c, .slice v.u.A C.units.length v.u.c, .slice v.a.A C.acts.length v.a.c, .slice v.k.A C.clauses.length v.k.c, .int .i64 C.days, .slice v.o.A C.off.length v.o.c], .agg #[.int .i64 s.day, .slice tv.h.A s.holders.length tv.h.c, .slice tv.u.A s.used.length tv.u.c, .slice tv.m.A s.marks.length tv.m.c], .int .i64 pt] W (RetB (.bool (C.breach s pt)) W) := fun W hW => breach_any v C tv s pt W (hC.below hW) (hS.below hW)
 have HBR := Lib.hid hbr; clear hbr hC hS
 simp only [TV.val, TV.cells, KState.cells]
 cases hb : C.breach s pt with
 | true =>
  rw [hb] at HBR
  go_enter Tryz.func40, Tryz.ntmps40
  go_wp2_with fail
  refine (HBR.out _ (Below.alloc' (Below.refl _ _) _)).mono ?_
  rintro e z ⟨rfl, hz⟩
  go_wp2
  go_ret
  exact ⟨rfl, Below.step (Below.alloc' (Below.refl _ _) _) hz⟩
 | false =>
  rw [hb] at HBR
  go_enter Tryz.func40, Tryz.ntmps40
  go_wp2_with fail
  refine (HBR.out _ (Below.alloc' (Below.refl _ _) _)).mono ?_
  rintro e z ⟨rfl, hz⟩
  go_wp2
  go_ret
  exact ⟨rfl, Below.step (Below.alloc' (Below.refl _ _) _) hz⟩
end Go.Proofs.YtaielhafpmjkaaaGreatDoor
