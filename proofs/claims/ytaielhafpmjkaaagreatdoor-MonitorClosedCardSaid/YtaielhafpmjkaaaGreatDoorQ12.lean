/-
  Sys2; Sys3
-/
import Derived.Test.YtaielhafpmjkaaaGreatDoorQ04
import Derived.Test.YtaielhafpmjkaaaGreatDoorQ10
import Derived.Test.YtaielhafpmjkaaaGreatDoorQ11
namespace Go.Proofs.YtaielhafpmjkaaaGreatDoor
open Go.RowKit
def holdsB (is x : Int) : Bool := (cond (is == 1) (!(x == 0)) (cond (is == 2) (x == 3) (cond (is == 3) (x == 4) (cond (is == 4) (x == 5) false))))
def statusAt (ms : List KMark) (x : Int) : Int := ((ms[x.toNat]?).map (·.status)).getD 0
def condHolds (ms : List KMark) (c : KCond) : Bool := holdsB c.is (statusAt ms c.clause)
def condsHold (ms : List KMark) (l : List KCond) : Bool := l.all (condHolds ms)
def readyK (ms : List KMark) (k : KClause) (m : KMark) : Bool := (m.status == 0) && ((!k.waived) && condsHold ms k.start)
theorem condsHold_snoc {ms : List KMark} {l : List KCond} {j : Nat} {x : KCond} (hx : l[j]? = some x) (h : condsHold ms (l.take j) = true) (h2 : condHolds ms x = true) : condsHold ms (l.take (j + 1)) = true := by
 obtain ⟨hj, rfl⟩ := List.getElem?_eq_some_iff.1 hx
 unfold condsHold at *
 rw [List.take_succ_eq_append_getElem hj, List.all_append, h]
 simpa using h2
theorem condsHold_bad {ms : List KMark} {l : List KCond} {j : Nat} {x : KCond} (hx : l[j]? = some x) (h2 : condHolds ms x = false) : condsHold ms l = false := by
 cases e : condsHold ms l with
 | false => rfl
 | true =>
  unfold condsHold at e
  rw [List.all_eq_true.1 e x (List.mem_of_getElem? hx)] at h2
  cases h2
theorem StateAt.mark {w : World} {v : TV} {s : KState} (h : StateAt w v s) {i : Nat} {m : KMark} (hm : s.marks[i]? = some m) :
 ∃ b off, v.m.A = some ⟨b, off, none⟩ ∧ b < w.heap.size ∧ ∀ (i : Nat) (m : KMark), s.marks[i]? = some m → ∀ W, Below w.heap.size w W → ∀ j, j < 5 → W.cell? ⟨b, off + i * 5 + j, none⟩ = m.cells[j]? := by
 have hi : i < s.marks.length := (List.getElem?_eq_some_iff.1 hm).1
 obtain ⟨b, off, hA, hb, hc⟩ := h.marks.1.form (by omega) (by omega)
 refine ⟨b, off, hA, hb, fun i m hm W hW j hj => ?_⟩
 have hi : i < s.marks.length := (List.getElem?_eq_some_iff.1 hm).1
 rw [hW.cell (p := ⟨b, off + i * 5 + j, none⟩) hb, Nat.add_assoc, hc _ (by omega)]
 exact get_flat _ 5 (fun _ => rfl) s.marks i j m hm hj
set_option maxRecDepth 100000 in
set_option maxHeartbeats 4000000 in
theorem ready_any (v : CV) (C : KCon) (tv : TV) (s : KState) (i : Nat) (k : KClause) (m : KMark) (w : World) (hC : ConAt w v C) (hS : StateAt w tv s) (hk : C.clauses[i]? = some k) (hm : s.marks[i]? = some m) (hin : ∀ c ∈ k.start, 0 ≤ c.clause ∧ c.clause < s.marks.length) :
 Calls Tryz.prog 46 #[v.val C, tv.val s, .int .i64 i] w (RetB (.bool (readyK s.marks k m)) w) := by
 have hil : i < C.clauses.length := (List.getElem?_eq_some_iff.1 hk).1
 have him : i < s.marks.length := (List.getElem?_eq_some_iff.1 hm).1
 obtain ⟨b, off, ⟨stA, stc⟩, hA0, hb, hcell, hst⟩ := hC.clause hk
 obtain ⟨mb, moff, hM0, hmb, hmc⟩ := hS.mark hm
 obtain ⟨⟨hA, hcp⟩, ⟨uA, ucp⟩, ⟨aA, acp⟩, ⟨kA, kcp⟩, ⟨oA, ocp⟩⟩ := v
 obtain ⟨⟨shA, shc⟩, ⟨suA, suc⟩, ⟨smA, smc⟩⟩ := tv
 simp only at hA0 hM0
 subst hA0 hM0
 have hmx : s.marks.length ≤ 9223372036854775807 := by have h1 := hS.marks.2.2.1; have h2 := hS.marks.2.2.2; unfold maxLen at h2; omega
 have hsx : k.start.length ≤ 9223372036854775807 := by have h1 := hst.2.2.1; have h2 := hst.2.2.2; unfold maxLen at h2; omega
 obtain ⟨ki, ro, ac, ne, start, af, gr, bu, fi, pa, re, ⟨vn, vd⟩, un, tg, wa⟩ := k
 generalize hE : readyK s.marks ⟨ki, ro, ac, ne, start, af, gr, bu, fi, pa, re, ⟨vn, vd⟩, un, tg, wa⟩ m = E
 simp only [readyK] at hE
 have HE := Lib.hid hE; clear hE
 have HST := Lib.hid hst; clear hst
 have HIN := Lib.hid hin; clear hin
 clear hC hS
 simp only [CV.val, CV.cells, TV.val, TV.cells, KState.cells]
 have i0 : (0 : Int) ≤ (i : Int) := by omega
 have i1 : (i : Int) < (C.clauses.length : Int) := by omega
 have i2 : (i : Int) < (s.marks.length : Int) := by omega
 simp only at hsx
 go_enter Tryz.func46, Tryz.ntmps46
 go_upto_region 1 with (fail)
 obtain ⟨W0, HW0⟩ : ∃ W0, Hid (W0 = (w.alloc (.cells #[.int .i64 C.parties, .slice hA C.holders.length hcp, .slice uA C.units.length ucp, .slice aA C.acts.length acp, .slice (some ⟨b, off, none⟩) C.clauses.length kcp, .int .i64 C.days, .slice oA C.off.length ocp] 27)).alloc (.cells #[.int .i64 s.day, .slice shA s.holders.length shc, .slice suA s.used.length suc, .slice (some ⟨mb, moff, none⟩) s.marks.length smc] 43)) := ⟨_, rfl⟩
 have hh0 : W0.heap[w.heap.size]? = some (.cells #[.int .i64 C.parties, .slice hA C.holders.length hcp, .slice uA C.units.length ucp, .slice aA C.acts.length acp, .slice (some ⟨b, off, none⟩) C.clauses.length kcp, .int .i64 C.days, .slice oA C.off.length ocp] 27 (0, 0)) := by rw [HW0.out]; exact (Below.heap_alloc (w.alloc (.cells #[.int .i64 C.parties, .slice hA C.holders.length hcp, .slice uA C.units.length ucp, .slice aA C.acts.length acp, .slice (some ⟨b, off, none⟩) C.clauses.length kcp, .int .i64 C.days, .slice oA C.off.length ocp] 27)) _ (w.heap.size) (by simp)).trans (heap_alloc_new w (.cells #[.int .i64 C.parties, .slice hA C.holders.length hcp, .slice uA C.units.length ucp, .slice aA C.acts.length acp, .slice (some ⟨b, off, none⟩) C.clauses.length kcp, .int .i64 C.days, .slice oA C.off.length ocp] 27))
 have k0_0 : ∀ sB : Bl W0, sB.val.cell? ⟨w.heap.size, 0, none⟩ = some (.int .i64 C.parties) := fun sB => sB.cell ((cell_of_row W0 _ 0 _ _ _ hh0).trans rfl)
 have k0_1 : ∀ sB : Bl W0, sB.val.cell? ⟨w.heap.size, 1, none⟩ = some (.slice hA C.holders.length hcp) := fun sB => sB.cell ((cell_of_row W0 _ 1 _ _ _ hh0).trans rfl)
 have k0_2 : ∀ sB : Bl W0, sB.val.cell? ⟨w.heap.size, 2, none⟩ = some (.slice uA C.units.length ucp) := fun sB => sB.cell ((cell_of_row W0 _ 2 _ _ _ hh0).trans rfl)
 have k0_3 : ∀ sB : Bl W0, sB.val.cell? ⟨w.heap.size, 3, none⟩ = some (.slice aA C.acts.length acp) := fun sB => sB.cell ((cell_of_row W0 _ 3 _ _ _ hh0).trans rfl)
 have k0_4 : ∀ sB : Bl W0, sB.val.cell? ⟨w.heap.size, 4, none⟩ = some (.slice (some ⟨b, off, none⟩) C.clauses.length kcp) := fun sB => sB.cell ((cell_of_row W0 _ 4 _ _ _ hh0).trans rfl)
 have k0_5 : ∀ sB : Bl W0, sB.val.cell? ⟨w.heap.size, 5, none⟩ = some (.int .i64 C.days) := fun sB => sB.cell ((cell_of_row W0 _ 5 _ _ _ hh0).trans rfl)
 have k0_6 : ∀ sB : Bl W0, sB.val.cell? ⟨w.heap.size, 6, none⟩ = some (.slice oA C.off.length ocp) := fun sB => sB.cell ((cell_of_row W0 _ 6 _ _ _ hh0).trans rfl)
 clear hh0
 have hh1 : W0.heap[w.heap.size + 1]? = some (.cells #[.int .i64 s.day, .slice shA s.holders.length shc, .slice suA s.used.length suc, .slice (some ⟨mb, moff, none⟩) s.marks.length smc] 43 (0, 0)) := by rw [HW0.out]; exact (by have h := heap_alloc_new (w.alloc (.cells #[.int .i64 C.parties, .slice hA C.holders.length hcp, .slice uA C.units.length ucp, .slice aA C.acts.length acp, .slice (some ⟨b, off, none⟩) C.clauses.length kcp, .int .i64 C.days, .slice oA C.off.length ocp] 27)) (.cells #[.int .i64 s.day, .slice shA s.holders.length shc, .slice suA s.used.length suc, .slice (some ⟨mb, moff, none⟩) s.marks.length smc] 43); simp only [World.size_alloc] at h; exact h)
 have k1_0 : ∀ sB : Bl W0, sB.val.cell? ⟨w.heap.size + 1, 0, none⟩ = some (.int .i64 s.day) := fun sB => sB.cell ((cell_of_row W0 _ 0 _ _ _ hh1).trans rfl)
 have k1_1 : ∀ sB : Bl W0, sB.val.cell? ⟨w.heap.size + 1, 1, none⟩ = some (.slice shA s.holders.length shc) := fun sB => sB.cell ((cell_of_row W0 _ 1 _ _ _ hh1).trans rfl)
 have k1_2 : ∀ sB : Bl W0, sB.val.cell? ⟨w.heap.size + 1, 2, none⟩ = some (.slice suA s.used.length suc) := fun sB => sB.cell ((cell_of_row W0 _ 2 _ _ _ hh1).trans rfl)
 have k1_3 : ∀ sB : Bl W0, sB.val.cell? ⟨w.heap.size + 1, 3, none⟩ = some (.slice (some ⟨mb, moff, none⟩) s.marks.length smc) := fun sB => sB.cell ((cell_of_row W0 _ 3 _ _ _ hh1).trans rfl)
 clear hh1
 have HB : Hid (Below w.heap.size w W0) := by show Below _ _ _; rw [HW0.out]; exact Below.alloc' (Below.alloc' (Below.refl _ _) _) _
 rw [← HW0.out]
 change Code.wp _ _ _ _ (Bl.val (⟨W0, Below.refl _ _⟩ : Bl W0))
 generalize (⟨W0, Below.refl _ _⟩ : Bl W0) = s0
 have c4 : ∀ z : Bl W0, z.val.cell? ⟨b, off + i * 16 + 4, none⟩ = some (.slice stA start.length stc) := fun z => hcell z.val (Below.step HB.out z.prop) 4 (by omega)
 have c15 : ∀ z : Bl W0, z.val.cell? ⟨b, off + i * 16 + 15, none⟩ = some (.bool wa) := fun z => hcell z.val (Below.step HB.out z.prop) 15 (by omega)
 have m0 : ∀ z : Bl W0, z.val.cell? ⟨mb, moff + i * 5, none⟩ = some (.int .i64 m.status) := fun z => hmc i m hm z.val (Below.step HB.out z.prop) 0 (by omega)
 have HMC : Hid (∀ (x : Int) (z : Bl W0), 0 ≤ x → x < (s.marks.length : Int) → z.val.cell? ⟨mb, moff + x.toNat * 5, none⟩ = some (.int .i64 (statusAt s.marks x))) := fun x z h0 h1 => by
  obtain ⟨a, ha⟩ : ∃ a, s.marks[x.toNat]? = some a := ⟨s.marks[x.toNat]'(by omega), List.getElem?_eq_getElem _⟩
  have h := hmc x.toNat a ha z.val (Below.step HB.out z.prop) 0 (by omega)
  rw [Nat.add_zero] at h
  rw [h]
  simp [KMark.cells, statusAt, ha]
 clear hcell hmc
 have HK := Lib.hid hk; clear hk
 have HM := Lib.hid hm; clear hm
 cases q1 : (m.status == 0) with
 | false =>
  have q1b : (m.status != 0) = true := by simpa using q1
  obtain rfl : E = false := by rw [← HE.out, q1]; rfl
  go_wp2
  go_ret
  exact ⟨rfl, Below.step HB.out (Bl.prop _)⟩
 | true =>
  have q1b : (m.status != 0) = false := by simpa using q1
  cases wa with
  | true =>
   obtain rfl : E = false := by rw [← HE.out, q1]; rfl
   go_wp2
   go_ret
   exact ⟨rfl, Below.step HB.out (Bl.prop _)⟩
  | false =>
   have HQ1 := Lib.hid q1
   go_wp2
   go_loopg [33] start.length (fun gk v33 wr => ∃ (j : Nat) (z : Bl W0), gk = start.length - j ∧ j ≤ start.length ∧ v33 = .int .i64 j ∧ wr = z.val ∧ Hid (condsHold s.marks (start.take j) = true))
   case atStart => exact ⟨0, _, rfl, Nat.zero_le _, rfl, rfl, rfl⟩
   case round =>
    obtain ⟨j, z, hgk, hj, rfl, rfl, hpre⟩ := hrel
    have HGK := Lib.hid hgk; clear hgk
    by_cases hlt : j < start.length
    · obtain ⟨⟨cl, is⟩, hx⟩ : ∃ x, start[j]? = some x := ⟨start[j], List.getElem?_eq_getElem hlt⟩
      obtain ⟨b2, off2, hA2, hb2, hc2⟩ := (HST.out.below (by omega) (Below.step HB.out z.prop)).1.form (by omega) (by omega)
      try simp only at hA2
      subst hA2
      have e0 : z.val.cell? ⟨b2, off2 + j * 2, none⟩ = some (.int .i64 cl) := by rw [hc2 _ (by omega)]; exact get_flat KCond.cells 2 (fun _ => rfl) start j 0 _ hx (by omega)
      have e1 : z.val.cell? ⟨b2, off2 + j * 2 + 1, none⟩ = some (.int .i64 is) := by rw [Nat.add_assoc, hc2 _ (by omega)]; exact get_flat KCond.cells 2 (fun _ => rfl) start j 1 _ hx (by omega)
      clear hc2
      obtain ⟨cl0, cl1⟩ : 0 ≤ cl ∧ cl < (s.marks.length : Int) := HIN.out _ (List.mem_of_getElem? hx)
      have e2 := HMC.out cl z cl0 cl1
      have hw2 : W0.heap.size = w.heap.size + 1 + 1 := by rw [HW0.out]; simp
      have hl0 : w.heap.size < z.val.heap.size := by have h1 := z.prop.size; omega
      have hl1 : w.heap.size + 1 < z.val.heap.size := by have h1 := z.prop.size; omega
      have hl2 : mb < z.val.heap.size := by have h1 := z.prop.size; omega
      clear hw2
      have HX := Lib.hid hx; clear hx
      have j1 : (j : Int) < (start.length : Int) := by omega
      generalize hxx : statusAt s.marks cl = x at e2
      have HXX := Lib.hid hxx; clear hxx
      focus
       cases q1 : (is == 1)
       focus
        have q1_0 : (is != 1) = true := by simpa using q1
        cases q2 : (is == 2)
        focus
         have q2_0 : (is != 2) = true := by simpa using q2
         cases q3 : (is == 3)
         focus
          have q3_0 : (is != 3) = true := by simpa using q3
          cases q4 : (is == 4)
          focus
           have q4_0 : (is != 4) = true := by simpa using q4
           have hP : holdsB is x = false := by unfold holdsB; rw [q1, q2, q3, q4]; rfl
           have hch : condHolds s.marks ⟨cl, is⟩ = false := by unfold condHolds; rw [HXX.out]; exact hP
           clear hP
           obtain rfl : E = false := by rw [← HE.out, HQ1.out, condsHold_bad HX.out hch]; rfl
           clear hch
           go_wp2
           go_ret
           exact ⟨rfl, Below.step HB.out (Below.alloc' z.prop _)⟩
          focus
           have q4_0 : (is != 4) = false := by simpa using q4
           cases q5 : (x == 5)
           focus
            have q5_0 : (x != 5) = true := by simpa using q5
            have hP : holdsB is x = false := by unfold holdsB; rw [q1, q2, q3, q4, q5]; rfl
            have hch : condHolds s.marks ⟨cl, is⟩ = false := by unfold condHolds; rw [HXX.out]; exact hP
            clear hP
            obtain rfl : E = false := by rw [← HE.out, HQ1.out, condsHold_bad HX.out hch]; rfl
            clear hch
            go_wp2
            go_ret
            exact ⟨rfl, Below.step HB.out (Below.alloc' z.prop _)⟩
           focus
            have q5_0 : (x != 5) = false := by simpa using q5
            have hP : holdsB is x = true := by unfold holdsB; rw [q1, q2, q3, q4, q5]; rfl
            have hch : condHolds s.marks ⟨cl, is⟩ = true := by unfold condHolds; rw [HXX.out]; exact hP
            clear hP
            have HCH := Lib.hid hch; clear hch
         rotate_left
         focus
          have q3_0 : (is != 3) = false := by simpa using q3
          cases q4 : (x == 4)
          focus
           have q4_0 : (x != 4) = true := by simpa using q4
           have hP : holdsB is x = false := by unfold holdsB; rw [q1, q2, q3, q4]; rfl
           have hch : condHolds s.marks ⟨cl, is⟩ = false := by unfold condHolds; rw [HXX.out]; exact hP
           clear hP
           obtain rfl : E = false := by rw [← HE.out, HQ1.out, condsHold_bad HX.out hch]; rfl
           clear hch
           go_wp2
           go_ret
           exact ⟨rfl, Below.step HB.out (Below.alloc' z.prop _)⟩
          focus
           have q4_0 : (x != 4) = false := by simpa using q4
           have hP : holdsB is x = true := by unfold holdsB; rw [q1, q2, q3, q4]; rfl
           have hch : condHolds s.marks ⟨cl, is⟩ = true := by unfold condHolds; rw [HXX.out]; exact hP
           clear hP
           have HCH := Lib.hid hch; clear hch
        rotate_left 2
        focus
         have q2_0 : (is != 2) = false := by simpa using q2
         cases q3 : (x == 3)
         focus
          have q3_0 : (x != 3) = true := by simpa using q3
          have hP : holdsB is x = false := by unfold holdsB; rw [q1, q2, q3]; rfl
          have hch : condHolds s.marks ⟨cl, is⟩ = false := by unfold condHolds; rw [HXX.out]; exact hP
          clear hP
          obtain rfl : E = false := by rw [← HE.out, HQ1.out, condsHold_bad HX.out hch]; rfl
          clear hch
          go_wp2
          go_ret
          exact ⟨rfl, Below.step HB.out (Below.alloc' z.prop _)⟩
         focus
          have q3_0 : (x != 3) = false := by simpa using q3
          have hP : holdsB is x = true := by unfold holdsB; rw [q1, q2, q3]; rfl
          have hch : condHolds s.marks ⟨cl, is⟩ = true := by unfold condHolds; rw [HXX.out]; exact hP
          clear hP
          have HCH := Lib.hid hch; clear hch
       rotate_left 3
       focus
        have q1_0 : (is != 1) = false := by simpa using q1
        cases q2 : (x == 0)
        focus
         have q2_0 : (x != 0) = true := by simpa using q2
         have hP : holdsB is x = true := by unfold holdsB; rw [q1, q2]; rfl
         have hch : condHolds s.marks ⟨cl, is⟩ = true := by unfold condHolds; rw [HXX.out]; exact hP
         clear hP
         have HCH := Lib.hid hch; clear hch
        rotate_left
        focus
         have q2_0 : (x != 0) = false := by simpa using q2
         have hP : holdsB is x = false := by unfold holdsB; rw [q1, q2]; rfl
         have hch : condHolds s.marks ⟨cl, is⟩ = false := by unfold condHolds; rw [HXX.out]; exact hP
         clear hP
         obtain rfl : E = false := by rw [← HE.out, HQ1.out, condsHold_bad HX.out hch]; rfl
         clear hch
         go_wp2
         go_ret
         exact ⟨rfl, Below.step HB.out (Below.alloc' z.prop _)⟩
       all_goals
        go_wp2
        go_roundg (start.length - (j + 1))
        case measure => rw [HGK.out]; omega
        case rel => exact ⟨j + 1, ⟨_, Below.alloc' z.prop _⟩, rfl, by omega, by go_num, rfl, condsHold_snoc HX.out hpre.out HCH.out⟩
    · obtain rfl : j = start.length := by omega
      have hcs : condsHold s.marks start = true := by have h := hpre.out; rwa [List.take_of_length_le (Nat.le_refl _)] at h
      obtain rfl : E = true := by rw [← HE.out, HQ1.out, hcs]; rfl
      clear hcs
      go_wp2
      go_ret
      exact ⟨rfl, Below.step HB.out (Bl.prop _)⟩
end Go.Proofs.YtaielhafpmjkaaaGreatDoor
namespace Go.Proofs.YtaielhafpmjkaaaGreatDoor
open Go.RowKit
def sv1 (C : KCon) (s : KState) : Bool := ((!decide (s.day < 0)) && ((!decide (C.days < s.day)) && (((s.holders.length : Int) == (C.holders.length : Int)) && (((s.used.length : Int) == (C.acts.length : Int)) && ((s.marks.length : Int) == (C.clauses.length : Int))))))
def holdOk (C : KCon) (p : Int) : Bool := (!decide (p < 0)) && (!decide (C.parties ≤ p))
def sHolders (C : KCon) (s : KState) : Bool := s.holders.all (holdOk C)
def sUsed (C : KCon) (s : KState) : Bool := (List.range s.used.length).all (fun i => match s.used[i]?, C.acts[i]? with | some u, some a => !(u && (a.kind == 1)) | _, _ => true)
def sMarks (C : KCon) (s : KState) : Bool := (List.range s.marks.length).all (fun i => match s.marks[i]?, C.clauses[i]? with | some m, some k => C.okMark k m && !(readyK s.marks k m) | _, _ => true)
def KCon.okState (C : KCon) (s : KState) : Bool := C.valid && (sv1 C s && (sHolders C s && (sUsed C s && sMarks C s)))
theorem sHolders_bad {C : KCon} {s : KState} {j : Nat} {x : Int} (hx : s.holders[j]? = some x) (h : holdOk C x = false) : sHolders C s = false := by
 cases e : sHolders C s with
 | false => rfl
 | true =>
  unfold sHolders at e
  rw [List.all_eq_true.1 e x (List.mem_of_getElem? hx)] at h
  cases h
theorem sHolders_all {C : KCon} {s : KState} (h : ∀ (j : Nat) (x : Int), s.holders[j]? = some x → holdOk C x = true) : sHolders C s = true := by
 unfold sHolders
 rw [List.all_eq_true]
 intro x hx
 obtain ⟨j, hj⟩ := List.getElem?_of_mem hx
 exact h j x hj
theorem sUsed_bad {C : KCon} {s : KState} {j : Nat} {a : KAct} (hx : s.used[j]? = some true) (ha : C.acts[j]? = some a) (h : (a.kind == 1) = true) : sUsed C s = false := by
 cases e : sUsed C s with
 | false => rfl
 | true =>
  unfold sUsed at e
  have hj : j < s.used.length := (List.getElem?_eq_some_iff.1 hx).1
  have := List.all_eq_true.1 e j (by simpa using hj)
  simp only [hx, ha, h] at this
  cases this
theorem sUsed_all {C : KCon} {s : KState} (h : ∀ (j : Nat) (u : Bool) (a : KAct), s.used[j]? = some u → C.acts[j]? = some a → (u && (a.kind == 1)) = false) : sUsed C s = true := by
 unfold sUsed
 rw [List.all_eq_true]
 intro i _
 cases e : s.used[i]? with
 | none => rfl
 | some u =>
  cases e2 : C.acts[i]? with
  | none => rfl
  | some a => simp only [h i u a e e2]; rfl
theorem sMarks_bad {C : KCon} {s : KState} {j : Nat} {m : KMark} {k : KClause} (hm : s.marks[j]? = some m) (hk : C.clauses[j]? = some k) (h : (C.okMark k m && !(readyK s.marks k m)) = false) : sMarks C s = false := by
 cases e : sMarks C s with
 | false => rfl
 | true =>
  unfold sMarks at e
  have hj : j < s.marks.length := (List.getElem?_eq_some_iff.1 hm).1
  have := List.all_eq_true.1 e j (by simpa using hj)
  simp only [hm, hk, h] at this
  cases this
theorem sMarks_all {C : KCon} {s : KState} (h : ∀ (j : Nat) (m : KMark) (k : KClause), s.marks[j]? = some m → C.clauses[j]? = some k → (C.okMark k m && !(readyK s.marks k m)) = true) : sMarks C s = true := by
 unfold sMarks
 rw [List.all_eq_true]
 intro i _
 cases e : s.marks[i]? with
 | none => rfl
 | some u =>
  cases e2 : C.clauses[i]? with
  | none => rfl
  | some a => exact h i u a e e2
theorem valid_conds {C : KCon} (h : C.valid = true) {i : Nat} {k : KClause} (hk : C.clauses[i]? = some k) : ∀ c ∈ k.start, 0 ≤ c.clause ∧ c.clause < C.clauses.length := by
 unfold KCon.valid at h
 simp only [Bool.and_eq_true] at h
 have h1 := okClauses_at h.2.2 hk
 unfold KCon.okClause at h1
 simp only [Bool.and_eq_true] at h1
 have h2 := h1.2.1
 unfold condsOk at h2
 intro c hc
 have h3 := List.all_eq_true.1 h2 c hc
 simp only [condOkB, Bool.and_eq_true, Bool.not_eq_true', decide_eq_false_iff_not] at h3
 omega
set_option maxRecDepth 100000 in
set_option maxHeartbeats 4000000 in
theorem stateValid_any (v : CV) (C : KCon) (tv : TV) (s : KState) (w : World) (hC : ConAt w v C) (hS : StateAt w tv s) : Calls Tryz.prog 19 #[v.val C, tv.val s] w (RetB (.bool (C.okState s)) w) := by
 obtain ⟨⟨hA, hcp⟩, ⟨uA, ucp⟩, ⟨aA, acp⟩, ⟨kA, kcp⟩, ⟨oA, ocp⟩⟩ := v
 obtain ⟨⟨shA, shc⟩, ⟨suA, suc⟩, ⟨smA, smc⟩⟩ := tv
 have hhx : s.holders.length ≤ 9223372036854775807 := by have h1 := hS.holders.2.2.1; have h2 := hS.holders.2.2.2; unfold maxLen at h2; omega
 have hux : s.used.length ≤ 9223372036854775807 := by have h1 := hS.used.2.2.1; have h2 := hS.used.2.2.2; unfold maxLen at h2; omega
 have hmx : s.marks.length ≤ 9223372036854775807 := by have h1 := hS.marks.2.2.1; have h2 := hS.marks.2.2.2; unfold maxLen at h2; omega
 have HC := Lib.hid hC; clear hC
 have HS := Lib.hid hS; clear hS
 simp only [CV.val, CV.cells, TV.val, TV.cells, KState.cells]
 generalize hE : C.okState s = E
 simp only [KCon.okState] at hE
 have HE := Lib.hid hE; clear hE
 go_enter Tryz.func19, Tryz.ntmps19
 go_upto_region 1 with (fail)
 obtain ⟨W0, HW0⟩ : ∃ W0, Hid (W0 = (w.alloc (.cells #[.int .i64 C.parties, .slice hA C.holders.length hcp, .slice uA C.units.length ucp, .slice aA C.acts.length acp, .slice kA C.clauses.length kcp, .int .i64 C.days, .slice oA C.off.length ocp] 27)).alloc (.cells #[.int .i64 s.day, .slice shA s.holders.length shc, .slice suA s.used.length suc, .slice smA s.marks.length smc] 43)) := ⟨_, rfl⟩
 have hh0 : W0.heap[w.heap.size]? = some (.cells #[.int .i64 C.parties, .slice hA C.holders.length hcp, .slice uA C.units.length ucp, .slice aA C.acts.length acp, .slice kA C.clauses.length kcp, .int .i64 C.days, .slice oA C.off.length ocp] 27 (0, 0)) := by rw [HW0.out]; exact (Below.heap_alloc (w.alloc (.cells #[.int .i64 C.parties, .slice hA C.holders.length hcp, .slice uA C.units.length ucp, .slice aA C.acts.length acp, .slice kA C.clauses.length kcp, .int .i64 C.days, .slice oA C.off.length ocp] 27)) _ (w.heap.size) (by simp)).trans (heap_alloc_new w (.cells #[.int .i64 C.parties, .slice hA C.holders.length hcp, .slice uA C.units.length ucp, .slice aA C.acts.length acp, .slice kA C.clauses.length kcp, .int .i64 C.days, .slice oA C.off.length ocp] 27))
 have k0_0 : ∀ sB : Bl W0, sB.val.cell? ⟨w.heap.size, 0, none⟩ = some (.int .i64 C.parties) := fun sB => sB.cell ((cell_of_row W0 _ 0 _ _ _ hh0).trans rfl)
 have k0_1 : ∀ sB : Bl W0, sB.val.cell? ⟨w.heap.size, 1, none⟩ = some (.slice hA C.holders.length hcp) := fun sB => sB.cell ((cell_of_row W0 _ 1 _ _ _ hh0).trans rfl)
 have k0_2 : ∀ sB : Bl W0, sB.val.cell? ⟨w.heap.size, 2, none⟩ = some (.slice uA C.units.length ucp) := fun sB => sB.cell ((cell_of_row W0 _ 2 _ _ _ hh0).trans rfl)
 have k0_3 : ∀ sB : Bl W0, sB.val.cell? ⟨w.heap.size, 3, none⟩ = some (.slice aA C.acts.length acp) := fun sB => sB.cell ((cell_of_row W0 _ 3 _ _ _ hh0).trans rfl)
 have k0_4 : ∀ sB : Bl W0, sB.val.cell? ⟨w.heap.size, 4, none⟩ = some (.slice kA C.clauses.length kcp) := fun sB => sB.cell ((cell_of_row W0 _ 4 _ _ _ hh0).trans rfl)
 have k0_5 : ∀ sB : Bl W0, sB.val.cell? ⟨w.heap.size, 5, none⟩ = some (.int .i64 C.days) := fun sB => sB.cell ((cell_of_row W0 _ 5 _ _ _ hh0).trans rfl)
 have k0_6 : ∀ sB : Bl W0, sB.val.cell? ⟨w.heap.size, 6, none⟩ = some (.slice oA C.off.length ocp) := fun sB => sB.cell ((cell_of_row W0 _ 6 _ _ _ hh0).trans rfl)
 clear hh0
 have hh1 : W0.heap[w.heap.size + 1]? = some (.cells #[.int .i64 s.day, .slice shA s.holders.length shc, .slice suA s.used.length suc, .slice smA s.marks.length smc] 43 (0, 0)) := by rw [HW0.out]; exact (by have h := heap_alloc_new (w.alloc (.cells #[.int .i64 C.parties, .slice hA C.holders.length hcp, .slice uA C.units.length ucp, .slice aA C.acts.length acp, .slice kA C.clauses.length kcp, .int .i64 C.days, .slice oA C.off.length ocp] 27)) (.cells #[.int .i64 s.day, .slice shA s.holders.length shc, .slice suA s.used.length suc, .slice smA s.marks.length smc] 43); simp only [World.size_alloc] at h; exact h)
 have k1_0 : ∀ sB : Bl W0, sB.val.cell? ⟨w.heap.size + 1, 0, none⟩ = some (.int .i64 s.day) := fun sB => sB.cell ((cell_of_row W0 _ 0 _ _ _ hh1).trans rfl)
 have k1_1 : ∀ sB : Bl W0, sB.val.cell? ⟨w.heap.size + 1, 1, none⟩ = some (.slice shA s.holders.length shc) := fun sB => sB.cell ((cell_of_row W0 _ 1 _ _ _ hh1).trans rfl)
 have k1_2 : ∀ sB : Bl W0, sB.val.cell? ⟨w.heap.size + 1, 2, none⟩ = some (.slice suA s.used.length suc) := fun sB => sB.cell ((cell_of_row W0 _ 2 _ _ _ hh1).trans rfl)
 have k1_3 : ∀ sB : Bl W0, sB.val.cell? ⟨w.heap.size + 1, 3, none⟩ = some (.slice smA s.marks.length smc) := fun sB => sB.cell ((cell_of_row W0 _ 3 _ _ _ hh1).trans rfl)
 clear hh1
 have HB : Hid (Below w.heap.size w W0) := by show Below _ _ _; rw [HW0.out]; exact Below.alloc' (Below.alloc' (Below.refl _ _) _) _
 rw [← HW0.out]
 change Code.wp _ _ _ _ (Bl.val (⟨W0, Below.refl _ _⟩ : Bl W0))
 generalize (⟨W0, Below.refl _ _⟩ : Bl W0) = s0
 have hw2 : W0.heap.size = w.heap.size + 1 + 1 := by rw [HW0.out]; simp
 have HW2 := Lib.hid hw2; clear hw2
 have hcv : ∀ z : Bl W0, Calls Tryz.prog 44 #[.agg #[.int .i64 C.parties, .slice hA C.holders.length hcp, .slice uA C.units.length ucp, .slice aA C.acts.length acp, .slice kA C.clauses.length kcp, .int .i64 C.days, .slice oA C.off.length ocp]] z.val (ConPost C.errno z.val) := fun z => conValid_any (⟨⟨hA, hcp⟩, ⟨uA, ucp⟩, ⟨aA, acp⟩, ⟨kA, kcp⟩, ⟨oA, ocp⟩⟩ : CV) C z.val (HC.out.below (Below.step HB.out z.prop))
 have HCV := Lib.hid hcv; clear hcv
 go_wp2_with fail
 refine (HCV.out _).mono ?_
 rintro e z ⟨n, rfl, hz⟩
 obtain ⟨z1, rfl⟩ := Bl.on hz
 clear hz
 cases hv : C.valid with
 | false =>
  obtain ⟨f1, f2⟩ := KCon.errno_no hv
  obtain rfl : E = false := by rw [← HE.out, hv]; rfl
  clear hv
  go_wp2
  go_ret
  exact ⟨rfl, Below.step HB.out (Bl.prop _)⟩
 | true =>
  rw [KCon.errno_yes hv]
  have HV := Lib.hid hv; clear hv
  cases q1 : decide (s.day < 0) with
  | false =>
   cases q2 : decide (C.days < s.day) with
   | false =>
    cases q3 : ((s.holders.length : Int) == (C.holders.length : Int)) with
    | false =>
     have q3_0 : ((s.holders.length : Int) != (C.holders.length : Int)) = true := by simpa using q3
     have hP : sv1 C s = false := by unfold sv1; rw [q1, q2, q3]; rfl
     obtain rfl : E = false := by rw [← HE.out, HV.out, hP]; rfl
     clear hP
     go_wp2
     go_ret
     exact ⟨rfl, Below.step HB.out (Bl.prop _)⟩
    | true =>
     have q3_0 : ((s.holders.length : Int) != (C.holders.length : Int)) = false := by simpa using q3
     cases q4 : ((s.used.length : Int) == (C.acts.length : Int)) with
     | false =>
      have q4_0 : ((s.used.length : Int) != (C.acts.length : Int)) = true := by simpa using q4
      have hP : sv1 C s = false := by unfold sv1; rw [q1, q2, q3, q4]; rfl
      obtain rfl : E = false := by rw [← HE.out, HV.out, hP]; rfl
      clear hP
      go_wp2
      go_ret
      exact ⟨rfl, Below.step HB.out (Bl.prop _)⟩
     | true =>
      have q4_0 : ((s.used.length : Int) != (C.acts.length : Int)) = false := by simpa using q4
      cases q5 : ((s.marks.length : Int) == (C.clauses.length : Int)) with
      | false =>
       have q5_0 : ((s.marks.length : Int) != (C.clauses.length : Int)) = true := by simpa using q5
       have hP : sv1 C s = false := by unfold sv1; rw [q1, q2, q3, q4, q5]; rfl
       obtain rfl : E = false := by rw [← HE.out, HV.out, hP]; rfl
       clear hP
       go_wp2
       go_ret
       exact ⟨rfl, Below.step HB.out (Bl.prop _)⟩
      | true =>
       have q5_0 : ((s.marks.length : Int) != (C.clauses.length : Int)) = false := by simpa using q5
       have hP : sv1 C s = true := by unfold sv1; rw [q1, q2, q3, q4, q5]; rfl
       have HP1 := Lib.hid hP; clear hP
       have hum : s.used.length = C.acts.length := by have h := (by assumption : ((s.used.length : Int) == (C.acts.length : Int)) = true); simp at h; omega
       have hmm : s.marks.length = C.clauses.length := by have h := (by assumption : ((s.marks.length : Int) == (C.clauses.length : Int)) = true); simp at h; omega
       have HUM := Lib.hid hum; clear hum
       have HMM := Lib.hid hmm; clear hmm
       go_wp2
       go_loopg [59] s.holders.length (fun gk v59 wr => ∃ (j : Nat), gk = s.holders.length - j ∧ j ≤ s.holders.length ∧ v59 = .int .i64 j ∧ z1.val = wr ∧ Hid (∀ (i : Nat) (x : Int), i < j → s.holders[i]? = some x → holdOk C x = true))
       case atStart => exact ⟨0, rfl, Nat.zero_le _, rfl, rfl, fun i x h => by omega⟩
       case round =>
        obtain ⟨j, hgk, hj, rfl, rfl, hpre⟩ := hrel
        have HGK := Lib.hid hgk; clear hgk
        by_cases hlt : j < s.holders.length
        · obtain ⟨b, off, hA0, hbl, hcell⟩ := (HS.out.below (Below.step HB.out z1.prop)).holders.1.form (by omega) (by omega)
          simp only at hA0
          subst hA0
          obtain ⟨d, hd⟩ : ∃ d, s.holders[j]? = some d := ⟨s.holders[j], List.getElem?_eq_getElem hlt⟩
          have kx : z1.val.cell? ⟨b, off + j, none⟩ = some (.int .i64 d) := by rw [hcell _ (by omega)]; simp [ints, hd]
          clear hcell
          have HD := Lib.hid hd; clear hd
          have j1 : (j : Int) < (s.holders.length : Int) := by omega
          cases p1 : decide (d < 0) with
          | true =>
           obtain rfl : E = false := by rw [← HE.out, HV.out, HP1.out, sHolders_bad HD.out (by unfold holdOk; rw [p1]; rfl)]; rfl
           go_wp2
           go_ret
           exact ⟨rfl, Below.step HB.out (Bl.prop _)⟩
          | false =>
           cases p2 : decide (C.parties ≤ d) with
           | true =>
            obtain rfl : E = false := by rw [← HE.out, HV.out, HP1.out, sHolders_bad HD.out (by unfold holdOk; rw [p1, p2]; rfl)]; rfl
            go_wp2
            go_ret
            exact ⟨rfl, Below.step HB.out (Bl.prop _)⟩
           | false =>
            have HOK : Hid (holdOk C d = true) := by show _ = _; unfold holdOk; rw [p1, p2]; rfl
            go_wp2
            go_roundg (s.holders.length - (j + 1))
            case measure => rw [HGK.out]; omega
            case rel => exact ⟨j + 1, rfl, by omega, by go_num, rfl, fun i x hi hx => by
             by_cases e : i = j
             · subst e
               rw [HD.out] at hx
               injection hx with hx
               subst hx
               exact HOK.out
             · exact hpre.out i x (by omega) hx⟩
        · obtain rfl : j = s.holders.length := by omega
          have HSH : Hid (sHolders C s = true) := sHolders_all (fun i x hx => hpre.out i x (List.getElem?_eq_some_iff.1 hx).1 hx)
          go_wp2
          go_loopg [75] s.used.length (fun gk v75 wr => ∃ (j : Nat), gk = s.used.length - j ∧ j ≤ s.used.length ∧ v75 = .int .i64 j ∧ z1.val = wr ∧ Hid (∀ (i : Nat) (u : Bool) (a : KAct), i < j → s.used[i]? = some u → C.acts[i]? = some a → (u && (a.kind == 1)) = false))
          case atStart => exact ⟨0, rfl, Nat.zero_le _, rfl, rfl, fun i u a h => by omega⟩
          case round =>
           obtain ⟨j, hgk, hj, rfl, rfl, hpre2⟩ := hrel
           have HGK2 := Lib.hid hgk; clear hgk
           by_cases hlt : j < s.used.length
           · obtain ⟨b, off, hA0, hbl, hcell⟩ := (HS.out.below (Below.step HB.out z1.prop)).used.1.form (by omega) (by omega)
             simp only at hA0
             subst hA0
             obtain ⟨d, hd⟩ : ∃ d, s.used[j]? = some d := ⟨s.used[j], List.getElem?_eq_getElem hlt⟩
             obtain ⟨a, ha⟩ : ∃ a, C.acts[j]? = some a := ⟨C.acts[j]'(by rw [← HUM.out]; exact hlt), List.getElem?_eq_getElem _⟩
             obtain ⟨b2, off2, hA1, hb2, hcell2⟩ := HC.out.act ha
             simp only at hA1
             subst hA1
             have kx : z1.val.cell? ⟨b, off + j, none⟩ = some (.bool d) := by rw [hcell _ (by omega)]; simp [bools, hd]
             have ky : z1.val.cell? ⟨b2, off2 + j * 7, none⟩ = some (.int .i64 a.kind) := hcell2 z1.val (Below.step HB.out z1.prop) 0 (by omega)
             clear hcell hcell2
             have HD := Lib.hid hd; clear hd
             have HA := Lib.hid ha; clear ha
             have j1 : (j : Int) < (s.used.length : Int) := by omega
             have j2 : (j : Int) < (C.acts.length : Int) := by have h := HUM.out; omega
             cases d with
             | false =>
              go_wp2
              go_roundg (s.used.length - (j + 1))
              case measure => rw [HGK2.out]; omega
              case rel => exact ⟨j + 1, rfl, by omega, by go_num, rfl, fun i u a hi hx hy => by
               by_cases e : i = j
               · subst e
                 rw [HD.out] at hx
                 injection hx with hx
                 subst hx
                 rfl
               · exact hpre2.out i u a (by omega) hx hy⟩
             | true =>
              cases p1 : (a.kind == 1) with
              | true =>
               obtain rfl : E = false := by rw [← HE.out, HV.out, HP1.out, HSH.out, sUsed_bad HD.out HA.out p1]; rfl
               go_wp2
               go_ret
               exact ⟨rfl, Below.step HB.out (Bl.prop _)⟩
              | false =>
               go_wp2
               go_roundg (s.used.length - (j + 1))
               case measure => rw [HGK2.out]; omega
               case rel => exact ⟨j + 1, rfl, by omega, by go_num, rfl, fun i u a' hi hx hy => by
                by_cases e : i = j
                · subst e
                  rw [HA.out] at hy
                  injection hy with hy
                  subst hy
                  rw [p1]
                  cases u <;> rfl
                · exact hpre2.out i u a' (by omega) hx hy⟩
           · obtain rfl : j = s.used.length := by omega
             have HSU : Hid (sUsed C s = true) := sUsed_all (fun i u a hx hy => hpre2.out i u a (List.getElem?_eq_some_iff.1 hx).1 hx hy)
             go_wp2
             go_loopg [94] s.marks.length (fun gk v94 wr => ∃ (j : Nat) (z : Bl W0), gk = s.marks.length - j ∧ j ≤ s.marks.length ∧ v94 = .int .i64 j ∧ wr = z.val ∧ Hid (∀ (i : Nat) (m : KMark) (k : KClause), i < j → s.marks[i]? = some m → C.clauses[i]? = some k → (C.okMark k m && !(readyK s.marks k m)) = true))
             case atStart => exact ⟨0, _, rfl, Nat.zero_le _, rfl, rfl, fun i m k h => by omega⟩
             case round =>
              obtain ⟨j, z, hgk, hj, rfl, rfl, hpre3⟩ := hrel
              have HGK3 := Lib.hid hgk; clear hgk
              by_cases hlt : j < s.marks.length
              · obtain ⟨m, hm⟩ : ∃ m, s.marks[j]? = some m := ⟨s.marks[j], List.getElem?_eq_getElem hlt⟩
                obtain ⟨k, hk⟩ : ∃ k, C.clauses[j]? = some k := ⟨C.clauses[j]'(by rw [← HMM.out]; exact hlt), List.getElem?_eq_getElem _⟩
                have hc1 : ∀ y : Bl W0, Calls Tryz.prog 45 #[.agg #[.int .i64 C.parties, .slice hA C.holders.length hcp, .slice uA C.units.length ucp, .slice aA C.acts.length acp, .slice kA C.clauses.length kcp, .int .i64 C.days, .slice oA C.off.length ocp], .int .i64 j, .agg #[.int .i64 m.status, .int .i64 m.left, .int .i64 m.got, .int .i64 m.bearer, .bool m.paused]] y.val (RetB (.bool (C.okMark k m)) y.val) := fun y => validMark_any (⟨⟨hA, hcp⟩, ⟨uA, ucp⟩, ⟨aA, acp⟩, ⟨kA, kcp⟩, ⟨oA, ocp⟩⟩ : CV) C j k m y.val (HC.out.below (Below.step HB.out y.prop)) hk
                have hc2 : ∀ y : Bl W0, Calls Tryz.prog 46 #[.agg #[.int .i64 C.parties, .slice hA C.holders.length hcp, .slice uA C.units.length ucp, .slice aA C.acts.length acp, .slice kA C.clauses.length kcp, .int .i64 C.days, .slice oA C.off.length ocp], .agg #[.int .i64 s.day, .slice shA s.holders.length shc, .slice suA s.used.length suc, .slice smA s.marks.length smc], .int .i64 j] y.val (RetB (.bool (readyK s.marks k m)) y.val) := fun y => ready_any (⟨⟨hA, hcp⟩, ⟨uA, ucp⟩, ⟨aA, acp⟩, ⟨kA, kcp⟩, ⟨oA, ocp⟩⟩ : CV) C (⟨⟨shA, shc⟩, ⟨suA, suc⟩, ⟨smA, smc⟩⟩ : TV) s j k m y.val (HC.out.below (Below.step HB.out y.prop)) (HS.out.below (Below.step HB.out y.prop)) hk hm (fun c hc => by rw [HMM.out]; exact valid_conds HV.out hk c hc)
                obtain ⟨b, off, hA0, hbl, hcell⟩ := HS.out.mark hm
                simp only at hA0
                subst hA0
                have hmc := fun y : Bl W0 => hcell j m hm y.val (Below.step HB.out y.prop)
                clear hcell
                have HM := Lib.hid hm; clear hm
                have HK := Lib.hid hk; clear hk
                generalize hvv1 : C.okMark k m = v1 at hc1
                generalize hvv2 : readyK s.marks k m = v2 at hc2
                have HV1 := Lib.hid hvv1; clear hvv1
                have HV2 := Lib.hid hvv2; clear hvv2
                obtain ⟨ms, ml, mg, mb, mp⟩ := m
                have e0 : ∀ y : Bl W0, y.val.cell? ⟨b, off + j * 5, none⟩ = some (.int .i64 ms) := fun y => hmc y 0 (by omega)
                have e1 : ∀ y : Bl W0, y.val.cell? ⟨b, off + j * 5 + 1, none⟩ = some (.int .i64 ml) := fun y => hmc y 1 (by omega)
                have e2 : ∀ y : Bl W0, y.val.cell? ⟨b, off + j * 5 + 2, none⟩ = some (.int .i64 mg) := fun y => hmc y 2 (by omega)
                have e3 : ∀ y : Bl W0, y.val.cell? ⟨b, off + j * 5 + 3, none⟩ = some (.int .i64 mb) := fun y => hmc y 3 (by omega)
                have e4 : ∀ y : Bl W0, y.val.cell? ⟨b, off + j * 5 + 4, none⟩ = some (.bool mp) := fun y => hmc y 4 (by omega)
                clear hmc
                simp only at hc1
                have HC1 := Lib.hid hc1; clear hc1
                have HC2 := Lib.hid hc2; clear hc2
                have j0 : (0 : Int) ≤ (j : Int) := by omega
                have j1 : (j : Int) < (s.marks.length : Int) := by omega
                cases v1 with
                | false =>
                 obtain rfl : E = false := by rw [← HE.out, HV.out, HP1.out, HSH.out, HSU.out, sMarks_bad HM.out HK.out (by rw [HV1.out]; rfl)]; rfl
                 go_wp2
                 refine wp_region_bl (by kernel_rfl) (by kernel_rfl) ?_; (repeat (go_big_quiet_step ((first | (go_at_call 45; exact Calls.bl_of (HC1.out _)) | (go_at_call 46; exact Calls.bl_of (HC2.out _)))))); refine wpQuiet_nil ?_; rintro _ ⟨zq, rfl⟩
                 go_wp2
                 go_ret
                 exact ⟨rfl, Below.step HB.out (Bl.prop _)⟩
                | true =>
                 cases v2 with
                 | true =>
                  obtain rfl : E = false := by rw [← HE.out, HV.out, HP1.out, HSH.out, HSU.out, sMarks_bad HM.out HK.out (by rw [HV1.out, HV2.out]; rfl)]; rfl
                  go_wp2
                  refine wp_region_bl (by kernel_rfl) (by kernel_rfl) ?_; (repeat (go_big_quiet_step ((first | (go_at_call 45; exact Calls.bl_of (HC1.out _)) | (go_at_call 46; exact Calls.bl_of (HC2.out _)))))); refine wpQuiet_nil ?_; rintro _ ⟨zq, rfl⟩
                  go_wp2
                  go_ret
                  exact ⟨rfl, Below.step HB.out (Bl.prop _)⟩
                 | false =>
                  go_wp2
                  refine wp_region_bl (by kernel_rfl) (by kernel_rfl) ?_; (repeat (go_big_quiet_step ((first | (go_at_call 45; exact Calls.bl_of (HC1.out _)) | (go_at_call 46; exact Calls.bl_of (HC2.out _)))))); refine wpQuiet_nil ?_; rintro _ ⟨zq, rfl⟩
                  go_wp2
                  go_roundg (s.marks.length - (j + 1))
                  case measure => rw [HGK3.out]; omega
                  case rel => exact ⟨j + 1, zq, rfl, by omega, by go_num, rfl, fun i m' k' hi hx hy => by
                   by_cases e : i = j
                   · subst e
                     rw [HM.out] at hx
                     rw [HK.out] at hy
                     injection hx with hx
                     injection hy with hy
                     subst hx hy
                     rw [HV1.out, HV2.out]
                     rfl
                   · exact hpre3.out i m' k' (by omega) hx hy⟩
              · obtain rfl : j = s.marks.length := by omega
                obtain rfl : E = true := by rw [← HE.out, HV.out, HP1.out, HSH.out, HSU.out, sMarks_all (fun i m k hx hy => hpre3.out i m k (List.getElem?_eq_some_iff.1 hx).1 hx hy)]; rfl
                go_wp2
                go_ret
                exact ⟨rfl, Below.step HB.out (Bl.prop _)⟩
   | true =>
    have hP : sv1 C s = false := by unfold sv1; rw [q1, q2]; rfl
    obtain rfl : E = false := by rw [← HE.out, HV.out, hP]; rfl
    clear hP
    go_wp2
    go_ret
    exact ⟨rfl, Below.step HB.out (Bl.prop _)⟩
  | true =>
   have hP : sv1 C s = false := by unfold sv1; rw [q1]; rfl
   obtain rfl : E = false := by rw [← HE.out, HV.out, hP]; rfl
   clear hP
   go_wp2
   go_ret
   exact ⟨rfl, Below.step HB.out (Bl.prop _)⟩
end Go.Proofs.YtaielhafpmjkaaaGreatDoor
