/-
  Mon1; Mon2; Mon3; Mon4; Prj2
-/
import Derived.Test.YtaielhafpmjkaaaGreatDoorQ10
namespace Go.Proofs.YtaielhafpmjkaaaGreatDoor
open Go.RowKit
def StatesAt (w : World) (v : SV) (l : List KState) : Prop :=
 ∃ ts : List TV, ts.length = l.length ∧ At w 4 v.A l.length v.c ((l.zip ts).flatMap (fun p => TV.cells p.2 p.1)) ∧ ∀ (i : Nat) (s : KState) (t : TV), l[i]? = some s → ts[i]? = some t → StateAt w t s
theorem StatesAt.below {w w' : World} {v : SV} {l : List KState} (h : StatesAt w v l) (hb : Below w.heap.size w w') : StatesAt w' v l := by
 obtain ⟨ts, h1, h2, h3⟩ := h
 exact ⟨ts, h1, h2.below (by omega) hb, fun i s t hs ht => (h3 i s t hs ht).below hb⟩
theorem StatesAt.form {w : World} {v : SV} {l : List KState} (h : StatesAt w v l) (hl : 0 < l.length) :
 ∃ b off, v.A = some ⟨b, off, none⟩ ∧ b < w.heap.size ∧ ∀ (i : Nat) (s : KState), l[i]? = some s → ∃ t : TV, StateAt w t s ∧ ∀ W, Below w.heap.size w W → ∀ j, j < 4 → W.cell? ⟨b, off + i * 4 + j, none⟩ = (t.cells s)[j]? := by
 obtain ⟨ts, h1, h2, h3⟩ := h
 obtain ⟨b, off, hA, hb, hc⟩ := h2.1.form hl (by omega)
 refine ⟨b, off, hA, hb, fun i s hs => ?_⟩
 have hi : i < l.length := (List.getElem?_eq_some_iff.1 hs).1
 have ht : ts[i]? = some (ts[i]'(by omega)) := List.getElem?_eq_getElem _
 refine ⟨ts[i]'(by omega), h3 i s _ hs ht, fun W hW j hj => ?_⟩
 rw [hW.cell (p := ⟨b, off + i * 4 + j, none⟩) hb, Nat.add_assoc, hc _ (by omega)]
 have hz : (l.zip ts)[i]? = some (s, ts[i]'(by omega)) := by rw [List.getElem?_zip_eq_some]; exact ⟨hs, ht⟩
 exact get_flat (fun p : KState × TV => TV.cells p.2 p.1) 4 (fun _ => rfl) (l.zip ts) i j _ hz hj
theorem StatesAt.len {w : World} {v : SV} {l : List KState} (h : StatesAt w v l) : l.length ≤ v.c ∧ v.c ≤ 9223372036854775807 := by
 obtain ⟨ts, h1, h2, h3⟩ := h
 have h4 := h2.2.2.1
 have h5 := h2.2.2.2
 unfold maxLen at h5
 omega
def bv1 (C : KCon) (pt : Int) (ss : List KState) : Bool := ((!decide (pt < 0)) && ((!decide (C.parties ≤ pt)) && ((!((ss.length : Int) == 0)) && (!decide (300 < (ss.length : Int))))))
def allOk (C : KCon) (ss : List KState) : Bool := ss.all (fun s => C.okState s)
def KCon.okBelief (C : KCon) (b : KBelief) : Bool := bv1 C b.party b.states && allOk C b.states
theorem allOk_bad {C : KCon} {ss : List KState} {j : Nat} {x : KState} (hx : ss[j]? = some x) (h : C.okState x = false) : allOk C ss = false := by
 cases e : allOk C ss with
 | false => rfl
 | true =>
  unfold allOk at e
  rw [List.all_eq_true.1 e x (List.mem_of_getElem? hx)] at h
  cases h
theorem allOk_all {C : KCon} {ss : List KState} (h : ∀ (j : Nat) (x : KState), ss[j]? = some x → C.okState x = true) : allOk C ss = true := by
 unfold allOk
 rw [List.all_eq_true]
 intro x hx
 obtain ⟨j, hj⟩ := List.getElem?_of_mem hx
 exact h j x hj
set_option maxRecDepth 100000 in
set_option maxHeartbeats 4000000 in
theorem beliefValid_any (v : CV) (C : KCon) (sv : SV) (b : KBelief) (w : World) (hC : ConAt w v C) (hS : StatesAt w sv b.states) : Calls Tryz.prog 35 #[v.val C, .agg #[.int .i64 b.party, .slice sv.A b.states.length sv.c]] w (RetB (.bool (C.okBelief b)) w) := by
 obtain ⟨⟨hA, hcp⟩, ⟨uA, ucp⟩, ⟨aA, acp⟩, ⟨kA, kcp⟩, ⟨oA, ocp⟩⟩ := v
 obtain ⟨bA, bc⟩ := sv
 obtain ⟨pt, ss⟩ := b
 simp only at hS ⊢
 obtain ⟨hlx1, hlx2⟩ := hS.len
 simp only at hlx1 hlx2
 have HC := Lib.hid hC; clear hC
 have HS := Lib.hid hS; clear hS
 simp only [CV.val, CV.cells]
 generalize hE : C.okBelief ⟨pt, ss⟩ = E
 simp only [KCon.okBelief] at hE
 have HE := Lib.hid hE; clear hE
 go_enter Tryz.func35, Tryz.ntmps35
 go_upto_region 1 with (fail)
 generalize hW0 : World.alloc _ _ = W0
 obtain ⟨HB, hh0, hh1⟩ := bx2 hW0
 have HW0 := Lib.hid hW0.symm
 clear hW0
 obtain ⟨k0_0, k0_1, k0_2, k0_3, k0_4, k0_5, k0_6⟩ := kc7 hh0
 clear hh0
 obtain ⟨k1_0, k1_1⟩ := kc2 hh1
 clear hh1
 change Code.wp _ _ _ _ (Bl.val (⟨W0, Below.refl _ _⟩ : Bl W0))
 generalize (⟨W0, Below.refl _ _⟩ : Bl W0) = s0
 have hw2 : W0.heap.size = w.heap.size + 1 + 1 := by rw [HW0.out]; simp
 have HW2 := Lib.hid hw2; clear hw2
 cases q1 : decide (pt < 0) with
 | false =>
  cases q2 : decide (C.parties ≤ pt) with
  | false =>
   cases q3 : ((ss.length : Int) == 0) with
   | false =>
    cases q4 : decide (300 < (ss.length : Int)) with
    | false =>
     have hP : bv1 C pt ss = true := by unfold bv1; rw [q1, q2, q3, q4]; rfl
     have HP1 := Lib.hid hP; clear hP
     go_wp2
     go_loopg [32] ss.length (fun gk v32 wr => ∃ (j : Nat) (z : Bl W0), gk = ss.length - j ∧ j ≤ ss.length ∧ v32 = .int .i64 j ∧ wr = z.val ∧ Hid (∀ (i : Nat) (x : KState), i < j → ss[i]? = some x → C.okState x = true))
     case atStart => exact ⟨0, _, rfl, Nat.zero_le _, rfl, rfl, fun i x h => by omega⟩
     case round =>
      obtain ⟨j, z, hgk, hj, rfl, rfl, hpre⟩ := hrel
      have HGK := Lib.hid hgk; clear hgk
      by_cases hlt : j < ss.length
      · obtain ⟨s, hs⟩ : ∃ s, ss[j]? = some s := ⟨ss[j], List.getElem?_eq_getElem hlt⟩
        obtain ⟨b, off, hA0, hbl, hcell⟩ := HS.out.form (by omega)
        simp only at hA0
        subst hA0
        obtain ⟨tv, hst, hcw0⟩ := hcell j s hs
        have hcw := hcw0 z.val (Below.step HB.out z.prop)
        clear hcell hcw0
        have hca : ∀ y : Bl W0, Calls Tryz.prog 19 #[.agg #[.int .i64 C.parties, .slice hA C.holders.length hcp, .slice uA C.units.length ucp, .slice aA C.acts.length acp, .slice kA C.clauses.length kcp, .int .i64 C.days, .slice oA C.off.length ocp], .agg #[.int .i64 s.day, .slice tv.h.A s.holders.length tv.h.c, .slice tv.u.A s.used.length tv.u.c, .slice tv.m.A s.marks.length tv.m.c]] y.val (RetB (.bool (C.okState s)) y.val) := fun y => stateValid_any (⟨⟨hA, hcp⟩, ⟨uA, ucp⟩, ⟨aA, acp⟩, ⟨kA, kcp⟩, ⟨oA, ocp⟩⟩ : CV) C tv s y.val (HC.out.below (Below.step HB.out y.prop)) (hst.below (Below.step HB.out y.prop))
        clear hst
        generalize hv : C.okState s = vv at hca
        have HV := Lib.hid hv; clear hv
        have HSJ := Lib.hid hs; clear hs
        obtain ⟨e0, e1, e2, e3⟩ := rw4 hcw rfl
        clear hcw
        have hl0 : w.heap.size < z.val.heap.size := by have h1 := z.prop.size; have h2 := HW2.out; omega
        have hl1 : w.heap.size + 1 < z.val.heap.size := by have h1 := z.prop.size; have h2 := HW2.out; omega
        have j1 : (j : Int) < (ss.length : Int) := by omega
        have HCA := Lib.hid hca; clear hca
        go_wp2_with fail
        have HZ : Hid (Calls Tryz.prog 19 #[.agg #[.int .i64 C.parties, .slice hA C.holders.length hcp, .slice uA C.units.length ucp, .slice aA C.acts.length acp, .slice kA C.clauses.length kcp, .int .i64 C.days, .slice oA C.off.length ocp], .agg #[.int .i64 s.day, .slice tv.h.A s.holders.length tv.h.c, .slice tv.u.A s.used.length tv.u.c, .slice tv.m.A s.marks.length tv.m.c]] (z.val.alloc (.cells #[.int .i64 s.day, .slice tv.h.A s.holders.length tv.h.c, .slice tv.u.A s.used.length tv.u.c, .slice tv.m.A s.marks.length tv.m.c] 43)) (RetB (.bool vv) (z.val.alloc (.cells #[.int .i64 s.day, .slice tv.h.A s.holders.length tv.h.c, .slice tv.u.A s.used.length tv.u.c, .slice tv.m.A s.marks.length tv.m.c] 43)))) := HCA.out ⟨_, Below.alloc' z.prop _⟩
        refine HZ.out.mono ?_
        rintro e y ⟨rfl, hy⟩
        obtain ⟨y1, rfl⟩ : ∃ y1 : Bl W0, y = y1.val := ⟨⟨y, Below.step (Below.alloc' z.prop _) hy⟩, rfl⟩
        clear hy HZ
        cases vv with
        | false =>
         obtain rfl : E = false := by rw [← HE.out, HP1.out, allOk_bad HSJ.out HV.out]; rfl
         go_wp2
         go_ret
         exact ⟨rfl, Below.step HB.out (Bl.prop _)⟩
        | true =>
         go_wp2
         go_roundg (ss.length - (j + 1))
         case measure => rw [HGK.out]; omega
         case rel => exact ⟨j + 1, y1, rfl, by omega, by go_num, rfl, fun i x hi hx => by
          by_cases e : i = j
          · subst e
            rw [HSJ.out] at hx
            injection hx with hx
            subst hx
            exact HV.out
          · exact hpre.out i x (by omega) hx⟩
      · obtain rfl : j = ss.length := by omega
        obtain rfl : E = true := by rw [← HE.out, HP1.out, allOk_all (fun i x hx => hpre.out i x (List.getElem?_eq_some_iff.1 hx).1 hx)]; rfl
        go_wp2
        go_ret
        exact ⟨rfl, Below.step HB.out (Bl.prop _)⟩
    | true =>
     have hP : bv1 C pt ss = false := by unfold bv1; rw [q1, q2, q3, q4]; rfl
     obtain rfl : E = false := by rw [← HE.out, hP]; rfl
     clear hP
     go_wp2
     go_ret
     exact ⟨rfl, Below.step HB.out (Bl.prop _)⟩
   | true =>
    have hP : bv1 C pt ss = false := by unfold bv1; rw [q1, q2, q3]; rfl
    obtain rfl : E = false := by rw [← HE.out, hP]; rfl
    clear hP
    go_wp2
    go_ret
    exact ⟨rfl, Below.step HB.out (Bl.prop _)⟩
  | true =>
   have hP : bv1 C pt ss = false := by unfold bv1; rw [q1, q2]; rfl
   obtain rfl : E = false := by rw [← HE.out, hP]; rfl
   clear hP
   go_wp2
   go_ret
   exact ⟨rfl, Below.step HB.out (Bl.prop _)⟩
 | true =>
  have hP : bv1 C pt ss = false := by unfold bv1; rw [q1]; rfl
  obtain rfl : E = false := by rw [← HE.out, hP]; rfl
  clear hP
  go_wp2
  go_ret
  exact ⟨rfl, Below.step HB.out (Bl.prop _)⟩
def meaningI (x : Int) : Int := cond (x == 3) 1 (cond (x == 5) 1 (cond (x == 4) 3 (cond (x == 0) 2 (cond (x == 1) 2 (cond (x == 2) 2 0)))))
set_option maxHeartbeats 1000000 in
theorem meaning_any (x : Int) (w : World) : Calls Tryz.prog 38 #[.int .i64 x] w (RetB (.int .i64 (meaningI x)) w) := by
 generalize hE : meaningI x = E
 cases h3 : (x == 3) with
 | true =>
  obtain rfl : E = 1 := by rw [← hE]; unfold meaningI; rw [h3]; rfl
  go_enter Tryz.func38, Tryz.ntmps38
  go_wp2
  go_ret
  exact ⟨rfl, Below.refl _ _⟩
 | false =>
  cases h5 : (x == 5) with
  | true =>
   obtain rfl : E = 1 := by rw [← hE]; unfold meaningI; rw [h3, h5]; rfl
   go_enter Tryz.func38, Tryz.ntmps38
   go_wp2
   go_ret
   exact ⟨rfl, Below.refl _ _⟩
  | false =>
   cases h4 : (x == 4) with
   | true =>
    obtain rfl : E = 3 := by rw [← hE]; unfold meaningI; rw [h3, h5, h4]; rfl
    go_enter Tryz.func38, Tryz.ntmps38
    go_wp2
    go_ret
    exact ⟨rfl, Below.refl _ _⟩
   | false =>
    cases h0 : (x == 0) with
    | true =>
     obtain rfl : E = 2 := by rw [← hE]; unfold meaningI; rw [h3, h5, h4, h0]; rfl
     go_enter Tryz.func38, Tryz.ntmps38
     go_wp2
     go_ret
     exact ⟨rfl, Below.refl _ _⟩
    | false =>
     cases h1 : (x == 1) with
     | true =>
      obtain rfl : E = 2 := by rw [← hE]; unfold meaningI; rw [h3, h5, h4, h0, h1]; rfl
      go_enter Tryz.func38, Tryz.ntmps38
      go_wp2
      go_ret
      exact ⟨rfl, Below.refl _ _⟩
     | false =>
      cases h2 : (x == 2) with
      | true =>
       obtain rfl : E = 2 := by rw [← hE]; unfold meaningI; rw [h3, h5, h4, h0, h1, h2]; rfl
       go_enter Tryz.func38, Tryz.ntmps38
       go_wp2
       go_ret
       exact ⟨rfl, Below.refl _ _⟩
      | false =>
       obtain rfl : E = 0 := by rw [← hE]; unfold meaningI; rw [h3, h5, h4, h0, h1, h2]; rfl
       go_enter Tryz.func38, Tryz.ntmps38
       go_wp2
       go_ret
       exact ⟨rfl, Below.refl _ _⟩
end Go.Proofs.YtaielhafpmjkaaaGreatDoor
namespace Go.Proofs.YtaielhafpmjkaaaGreatDoor
open Go.RowKit
set_option maxRecDepth 100000 in
set_option maxHeartbeats 1000000 in
theorem verdict1_any (tv : TV) (s : KState) (p : Nat) (c : Int) (w : World) (hS : StateAt w tv s) (hp : w.cell? ⟨p, 0, none⟩ = some (.int .i64 c)) (h0 : 0 ≤ c) (h1 : c < s.marks.length) :
 Calls Tryz.prog 37 #[tv.val s, .pointer (some ⟨p, 0, none⟩)] w (RetB (.int .i64 (meaningI (statusAt s.marks c))) w) := by
 obtain ⟨m, hm⟩ : ∃ m, s.marks[c.toNat]? = some m := ⟨s.marks[c.toNat]'(by omega), List.getElem?_eq_getElem _⟩
 obtain ⟨b, off, hM0, hmb, hmc⟩ := hS.mark hm
 obtain ⟨⟨shA, shc⟩, ⟨suA, suc⟩, ⟨smA, smc⟩⟩ := tv
 simp only at hM0
 subst hM0
 have m0 : w.cell? ⟨b, off + c.toNat * 5, none⟩ = some (.int .i64 (statusAt s.marks c)) := by
  have h := hmc c.toNat m hm w (Below.refl _ _) 0 (by omega)
  rw [Nat.add_zero] at h
  rw [h]
  simp [KMark.cells, statusAt, hm]
 clear hmc hS hm
 have hpl := World.block_lt_of_cell? w ⟨p, 0, none⟩ hp
 simp only at hpl
 have hmn := meaning_any (statusAt s.marks c)
 generalize statusAt s.marks c = st at *
 generalize meaningI st = r at *
 have HMN := Lib.hid hmn; clear hmn
 simp only [TV.val, TV.cells, KState.cells]
 go_enter Tryz.func37, Tryz.ntmps37
 go_wp2_with (go_at_call 38; refine (HMN.out _).mono ?_; rintro e z ⟨rfl, hz⟩)
 go_ret
 exact ⟨rfl, Below.step (Below.alloc' (Below.refl _ _) _) hz⟩
def blameI (b : Bool) : Int := cond b 3 2
set_option maxRecDepth 100000 in
set_option maxHeartbeats 1000000 in
theorem blames1_any (v : CV) (C : KCon) (tv : TV) (s : KState) (p q : Nat) (pt : Int) (w : World) (hC : ConAt w v C) (hS : StateAt w tv s)
 (hp0 : w.cell? ⟨p, 0, none⟩ = some (.int .i64 C.parties)) (hp1 : w.cell? ⟨p, 1, none⟩ = some (.slice v.h.A C.holders.length v.h.c)) (hp2 : w.cell? ⟨p, 2, none⟩ = some (.slice v.u.A C.units.length v.u.c)) (hp3 : w.cell? ⟨p, 3, none⟩ = some (.slice v.a.A C.acts.length v.a.c)) (hp4 : w.cell? ⟨p, 4, none⟩ = some (.slice v.k.A C.clauses.length v.k.c)) (hp5 : w.cell? ⟨p, 5, none⟩ = some (.int .i64 C.days)) (hp6 : w.cell? ⟨p, 6, none⟩ = some (.slice v.o.A C.off.length v.o.c))
 (hq : w.cell? ⟨q, 0, none⟩ = some (.int .i64 pt)) :
 Calls Tryz.prog 40 #[tv.val s, .pointer (some ⟨p, 0, none⟩), .pointer (some ⟨q, 0, none⟩)] w (RetB (.int .i64 (blameI (C.breach s pt))) w) := by
 have hpl := World.block_lt_of_cell? w ⟨p, 0, none⟩ hp0
 have hql := World.block_lt_of_cell? w ⟨q, 0, none⟩ hq
 simp only at hpl hql
 have hbr : ∀ W, Below w.heap.size w W → Calls Tryz.prog 27 #[.agg #[.int .i64 C.parties, .slice v.h.A C.holders.length v.h.c, .slice v.u.A C.units.length v.u.c, .slice v.a.A C.acts.length v.a.c, .slice v.k.A C.clauses.length v.k.c, .int .i64 C.days, .slice v.o.A C.off.length v.o.c], .agg #[.int .i64 s.day, .slice tv.h.A s.holders.length tv.h.c, .slice tv.u.A s.used.length tv.u.c, .slice tv.m.A s.marks.length tv.m.c], .int .i64 pt] W (RetB (.bool (C.breach s pt)) W) := fun W hW => breach_any v C tv s pt W (hC.below hW) (hS.below hW)
 have HBR := Lib.hid hbr; clear hbr hC hS
 simp only [TV.val, TV.cells, KState.cells]
 cases hb : C.breach s pt with
 | true =>
  rw [hb] at HBR
  go_enter Tryz.func40, Tryz.ntmps40
  go_wp2_with fail
  refine (HBR.out _ (Below.alloc' (Below.refl _ _) _)).mono ?_
  rintro e z ⟨rfl, hz⟩
  go_wp2
  go_ret
  exact ⟨rfl, Below.step (Below.alloc' (Below.refl _ _) _) hz⟩
 | false =>
  rw [hb] at HBR
  go_enter Tryz.func40, Tryz.ntmps40
  go_wp2_with fail
  refine (HBR.out _ (Below.alloc' (Below.refl _ _) _)).mono ?_
  rintro e z ⟨rfl, hz⟩
  go_wp2
  go_ret
  exact ⟨rfl, Below.step (Below.alloc' (Below.refl _ _) _) hz⟩
end Go.Proofs.YtaielhafpmjkaaaGreatDoor
namespace Go.Proofs.YtaielhafpmjkaaaGreatDoor
open Go.RowKit
def agreedK (f : KState → Int) : List KState → Int
 | [] => 0
 | s :: r => cond (r.all (fun x => f x == f s)) (f s) 0
theorem agreedK_bad {f : KState → Int} {ss : List KState} {s0 x : KState} {j : Nat} (h0 : ss[0]? = some s0) (hx : ss[j + 1]? = some x) (h : (f x == f s0) = false) : agreedK f ss = 0 := by
 cases ss with
 | nil => rfl
 | cons s r =>
  simp at h0 hx
  subst h0
  have : (r.all (fun x => f x == f s)) = false := by
   rw [List.all_eq_false]
   exact ⟨x, List.mem_of_getElem? hx, by simp [h]⟩
  simp [agreedK, this]
theorem agreedK_all {f : KState → Int} {ss : List KState} {s0 : KState} (h0 : ss[0]? = some s0) (h : ∀ (j : Nat) (x : KState), ss[j + 1]? = some x → (f x == f s0) = true) : agreedK f ss = f s0 := by
 cases ss with
 | nil => simp at h0
 | cons s r =>
  simp at h0
  subst h0
  have : (r.all (fun x => f x == f s)) = true := by
   rw [List.all_eq_true]
   intro x hx
   obtain ⟨j, hj⟩ := List.getElem?_of_mem hx
   exact h j x (by simpa using hj)
  simp [agreedK, this]
set_option maxRecDepth 100000 in
set_option maxHeartbeats 2000000 in
theorem agreed_verdict (sv : SV) (ss : List KState) (p : Nat) (f : KState → Int) (w : World) (hS : StatesAt w sv ss) (hpos : 0 < ss.length)
 (hcall : ∀ s ∈ ss, ∀ (tv : TV) (W : World), Below w.heap.size w W → StateAt W tv s → Calls Tryz.prog 37 #[.agg #[.int .i64 s.day, .slice tv.h.A s.holders.length tv.h.c, .slice tv.u.A s.used.length tv.u.c, .slice tv.m.A s.marks.length tv.m.c], .pointer (some ⟨p, 0, none⟩)] W (RetB (.int .i64 (f s)) W)) :
 Calls Tryz.prog 36 #[.slice sv.A ss.length sv.c, .func (.func 37) #[] #[.pointer (some ⟨p, 0, none⟩)]] w (RetB (.int .i64 (agreedK f ss)) w) := by
 obtain ⟨bA, bc⟩ := sv
 obtain ⟨hlx1, hlx2⟩ := hS.len
 simp only at hlx1 hlx2
 obtain ⟨b, off, hA0, hbl, hcell⟩ := hS.form hpos
 simp only at hA0
 subst hA0
 clear hS
 cases ss with
 | nil => simp at hpos
 | cons s0 r =>
 obtain ⟨tv, hst, hcw⟩ := hcell 0 s0 rfl
 have hc0 := hcall s0 (by simp) tv w (Below.refl _ _) hst
 have hcw2 := hcw w (Below.refl _ _)
 simp only [Nat.zero_mul, Nat.add_zero] at hcw2
 obtain ⟨e0, e1, e2, e3⟩ := rw4 hcw2 rfl
 clear hcw hcw2 hst
 simp only [List.length_cons] at hlx1 hpos ⊢
 generalize hE : agreedK f (s0 :: r) = E
 have HE := Lib.hid hE; clear hE
 have HC0 := Lib.hid hc0; clear hc0
 have HCALL := Lib.hid hcall; clear hcall
 have HCELL := Lib.hid hcell; clear hcell
 by_cases hb1 : bc = 1
 · subst hb1
   have hn1 : r.length = 0 := by omega
   have hr : r = [] := List.eq_nil_of_length_eq_zero hn1
   subst hr
   simp only [List.length_nil, Nat.zero_add]
   go_enter Tryz.func36, Tryz.ntmps36
   go_wp2_with fail
   refine HC0.out.mono ?_
   rintro e z ⟨rfl, hz⟩
   go_wp2
   go_loopg [16] 0 (fun gk v16 wr => v16 = .int .i64 0 ∧ z = wr)
   case atStart => exact ⟨rfl, rfl⟩
   case round =>
    obtain ⟨rfl, rfl⟩ := hrel
    go_wp2
    go_ret
    refine ⟨?_, hz⟩
    rw [← HE.out]
    rfl
 · go_enter Tryz.func36, Tryz.ntmps36
   go_wp2_with fail
   refine HC0.out.mono ?_
   rintro e z ⟨rfl, hz⟩
   obtain ⟨z, rfl⟩ : ∃ z' : Bl w, z = z'.val := ⟨⟨z, hz⟩, rfl⟩
   clear hz e0 e1 e2 e3
   generalize hr0 : f s0 = r0
   have HR0 := Lib.hid hr0; clear hr0
   go_wp2
   go_loopg [16] r.length (fun gk v16 wr => ∃ (j : Nat) (z : Bl w), gk = r.length - j ∧ j ≤ r.length ∧ v16 = .int .i64 j ∧ wr = z.val ∧ Hid (∀ (i : Nat) (x : KState), i < j → r[i]? = some x → (f x == r0) = true))
   case atStart => exact ⟨0, z, rfl, Nat.zero_le _, rfl, rfl, fun i x h => by omega⟩
   case round =>
    obtain ⟨j, z, hgk, hj, rfl, rfl, hpre⟩ := hrel
    have HGK := Lib.hid hgk; clear hgk
    by_cases hlt : j < r.length
    · obtain ⟨x, hx⟩ : ∃ x, r[j]? = some x := ⟨r[j], List.getElem?_eq_getElem hlt⟩
      obtain ⟨tv, hst, hcw⟩ := HCELL.out (j + 1) x (by simpa using hx)
      have hcw2 : ∀ k, k < 4 → z.val.cell? ⟨b, off + 4 + j * 4 + k, none⟩ = (tv.cells x)[k]? := fun k hk => by
       have h := hcw z.val z.prop k hk
       rw [show off + (j + 1) * 4 + k = off + 4 + j * 4 + k by omega] at h
       exact h
      obtain ⟨e0, e1, e2, e3⟩ := rw4 hcw2 rfl
      clear hcw hcw2
      have hc1 := HCALL.out x (List.mem_cons_of_mem _ (List.mem_of_getElem? hx)) tv (z.val.alloc (.cells #[.int .i64 x.day, .slice tv.h.A x.holders.length tv.h.c, .slice tv.u.A x.used.length tv.u.c, .slice tv.m.A x.marks.length tv.m.c] 43)) (Below.alloc' z.prop _) (hst.below (Below.alloc' z.prop _))
      clear hst
      have HX := Lib.hid hx; clear hx
      generalize hfx : f x = fx at hc1
      have HFX := Lib.hid hfx; clear hfx
      have HC1 := Lib.hid hc1; clear hc1
      have j1 : (j : Int) < (r.length : Int) := by omega
      go_wp2_with fail
      refine HC1.out.mono ?_
      rintro e y ⟨rfl, hy⟩
      obtain ⟨y1, rfl⟩ : ∃ y1 : Bl w, y = y1.val := ⟨⟨y, Below.step (Below.alloc' z.prop _) hy⟩, rfl⟩
      clear hy HC1
      cases q : (fx == r0) with
      | false =>
       have q2 : (fx != r0) = true := by simpa using q
       obtain rfl : E = 0 := by rw [← HE.out, agreedK_bad (j := j) (s0 := s0) (x := x) rfl (by simpa using HX.out) (by rw [HFX.out, HR0.out]; exact q)]
       go_wp2
       go_ret
       exact ⟨rfl, Bl.prop _⟩
      | true =>
       have q2 : (fx != r0) = false := by simpa using q
       have HQ : Hid ((f x == r0) = true) := by show _ = _; rw [HFX.out]; exact q
       clear q
       go_wp2
       go_roundg (r.length - (j + 1))
       case measure => rw [HGK.out]; omega
       case rel => exact ⟨j + 1, y1, rfl, by omega, by go_num, rfl, fun i u hi hu => by
        by_cases e : i = j
        · subst e
          rw [HX.out] at hu
          injection hu with hu
          subst hu
          exact HQ.out
        · exact hpre.out i u (by omega) hu⟩
    · obtain rfl : j = r.length := by omega
      obtain rfl : E = r0 := by
       rw [← HE.out, agreedK_all (s0 := s0) rfl (fun i u hu => by
        rw [HR0.out]
        exact hpre.out i u (by have h := (List.getElem?_eq_some_iff.1 hu).1; simp at h; omega) (by simpa using hu)), HR0.out]
      go_wp2
      go_ret
      exact ⟨rfl, Bl.prop _⟩
set_option maxRecDepth 100000 in
set_option maxHeartbeats 2000000 in
theorem agreed_blames (sv : SV) (ss : List KState) (p q : Nat) (f : KState → Int) (w : World) (hS : StatesAt w sv ss) (hpos : 0 < ss.length)
 (hcall : ∀ s ∈ ss, ∀ (tv : TV) (W : World), Below w.heap.size w W → StateAt W tv s → Calls Tryz.prog 40 #[.agg #[.int .i64 s.day, .slice tv.h.A s.holders.length tv.h.c, .slice tv.u.A s.used.length tv.u.c, .slice tv.m.A s.marks.length tv.m.c], .pointer (some ⟨p, 0, none⟩), .pointer (some ⟨q, 0, none⟩)] W (RetB (.int .i64 (f s)) W)) :
 Calls Tryz.prog 36 #[.slice sv.A ss.length sv.c, .func (.func 40) #[] #[.pointer (some ⟨p, 0, none⟩), .pointer (some ⟨q, 0, none⟩)]] w (RetB (.int .i64 (agreedK f ss)) w) := by
 obtain ⟨bA, bc⟩ := sv
 obtain ⟨hlx1, hlx2⟩ := hS.len
 simp only at hlx1 hlx2
 obtain ⟨b, off, hA0, hbl, hcell⟩ := hS.form hpos
 simp only at hA0
 subst hA0
 clear hS
 cases ss with
 | nil => simp at hpos
 | cons s0 r =>
 obtain ⟨tv, hst, hcw⟩ := hcell 0 s0 rfl
 have hc0 := hcall s0 (by simp) tv w (Below.refl _ _) hst
 have hcw2 := hcw w (Below.refl _ _)
 simp only [Nat.zero_mul, Nat.add_zero] at hcw2
 obtain ⟨e0, e1, e2, e3⟩ := rw4 hcw2 rfl
 clear hcw hcw2 hst
 simp only [List.length_cons] at hlx1 hpos ⊢
 generalize hE : agreedK f (s0 :: r) = E
 have HE := Lib.hid hE; clear hE
 have HC0 := Lib.hid hc0; clear hc0
 have HCALL := Lib.hid hcall; clear hcall
 have HCELL := Lib.hid hcell; clear hcell
 by_cases hb1 : bc = 1
 · subst hb1
   have hn1 : r.length = 0 := by omega
   have hr : r = [] := List.eq_nil_of_length_eq_zero hn1
   subst hr
   simp only [List.length_nil, Nat.zero_add]
   go_enter Tryz.func36, Tryz.ntmps36
   go_wp2_with fail
   refine HC0.out.mono ?_
   rintro e z ⟨rfl, hz⟩
   go_wp2
   go_loopg [16] 0 (fun gk v16 wr => v16 = .int .i64 0 ∧ z = wr)
   case atStart => exact ⟨rfl, rfl⟩
   case round =>
    obtain ⟨rfl, rfl⟩ := hrel
    go_wp2
    go_ret
    refine ⟨?_, hz⟩
    rw [← HE.out]
    rfl
 · go_enter Tryz.func36, Tryz.ntmps36
   go_wp2_with fail
   refine HC0.out.mono ?_
   rintro e z ⟨rfl, hz⟩
   obtain ⟨z, rfl⟩ : ∃ z' : Bl w, z = z'.val := ⟨⟨z, hz⟩, rfl⟩
   clear hz e0 e1 e2 e3
   generalize hr0 : f s0 = r0
   have HR0 := Lib.hid hr0; clear hr0
   go_wp2
   go_loopg [16] r.length (fun gk v16 wr => ∃ (j : Nat) (z : Bl w), gk = r.length - j ∧ j ≤ r.length ∧ v16 = .int .i64 j ∧ wr = z.val ∧ Hid (∀ (i : Nat) (x : KState), i < j → r[i]? = some x → (f x == r0) = true))
   case atStart => exact ⟨0, z, rfl, Nat.zero_le _, rfl, rfl, fun i x h => by omega⟩
   case round =>
    obtain ⟨j, z, hgk, hj, rfl, rfl, hpre⟩ := hrel
    have HGK := Lib.hid hgk; clear hgk
    by_cases hlt : j < r.length
    · obtain ⟨x, hx⟩ : ∃ x, r[j]? = some x := ⟨r[j], List.getElem?_eq_getElem hlt⟩
      obtain ⟨tv, hst, hcw⟩ := HCELL.out (j + 1) x (by simpa using hx)
      have hcw2 : ∀ k, k < 4 → z.val.cell? ⟨b, off + 4 + j * 4 + k, none⟩ = (tv.cells x)[k]? := fun k hk => by
       have h := hcw z.val z.prop k hk
       rw [show off + (j + 1) * 4 + k = off + 4 + j * 4 + k by omega] at h
       exact h
      obtain ⟨e0, e1, e2, e3⟩ := rw4 hcw2 rfl
      clear hcw hcw2
      have hc1 := HCALL.out x (List.mem_cons_of_mem _ (List.mem_of_getElem? hx)) tv (z.val.alloc (.cells #[.int .i64 x.day, .slice tv.h.A x.holders.length tv.h.c, .slice tv.u.A x.used.length tv.u.c, .slice tv.m.A x.marks.length tv.m.c] 43)) (Below.alloc' z.prop _) (hst.below (Below.alloc' z.prop _))
      clear hst
      have HX := Lib.hid hx; clear hx
      generalize hfx : f x = fx at hc1
      have HFX := Lib.hid hfx; clear hfx
      have HC1 := Lib.hid hc1; clear hc1
      have j1 : (j : Int) < (r.length : Int) := by omega
      go_wp2_with fail
      refine HC1.out.mono ?_
      rintro e y ⟨rfl, hy⟩
      obtain ⟨y1, rfl⟩ : ∃ y1 : Bl w, y = y1.val := ⟨⟨y, Below.step (Below.alloc' z.prop _) hy⟩, rfl⟩
      clear hy HC1
      cases q : (fx == r0) with
      | false =>
       have q2 : (fx != r0) = true := by simpa using q
       obtain rfl : E = 0 := by rw [← HE.out, agreedK_bad (j := j) (s0 := s0) (x := x) rfl (by simpa using HX.out) (by rw [HFX.out, HR0.out]; exact q)]
       go_wp2
       go_ret
       exact ⟨rfl, Bl.prop _⟩
      | true =>
       have q2 : (fx != r0) = false := by simpa using q
       have HQ : Hid ((f x == r0) = true) := by show _ = _; rw [HFX.out]; exact q
       clear q
       go_wp2
       go_roundg (r.length - (j + 1))
       case measure => rw [HGK.out]; omega
       case rel => exact ⟨j + 1, y1, rfl, by omega, by go_num, rfl, fun i u hi hu => by
        by_cases e : i = j
        · subst e
          rw [HX.out] at hu
          injection hu with hu
          subst hu
          exact HQ.out
        · exact hpre.out i u (by omega) hu⟩
    · obtain rfl : j = r.length := by omega
      obtain rfl : E = r0 := by
       rw [← HE.out, agreedK_all (s0 := s0) rfl (fun i u hu => by
        rw [HR0.out]
        exact hpre.out i u (by have h := (List.getElem?_eq_some_iff.1 hu).1; simp at h; omega) (by simpa using hu)), HR0.out]
      go_wp2
      go_ret
      exact ⟨rfl, Bl.prop _⟩
end Go.Proofs.YtaielhafpmjkaaaGreatDoor
namespace Go.Proofs.YtaielhafpmjkaaaGreatDoor
open Go.RowKit
theorem okBelief_state {C : KCon} {b : KBelief} (h : C.okBelief b = true) : 0 < b.states.length ∧ ∀ s ∈ b.states, C.okState s = true := by
 unfold KCon.okBelief at h
 simp only [Bool.and_eq_true] at h
 refine ⟨?_, fun s hs => List.all_eq_true.1 h.2 s hs⟩
 have h1 := h.1
 simp only [bv1, Bool.and_eq_true, Bool.not_eq_true', beq_eq_false_iff_ne, ne_eq] at h1
 omega
def verdict1 (C : KCon) (b : KBelief) (x : Int) : Bool := ((C.okBelief b) && ((!decide (x < 0)) && (!decide ((C.clauses.length : Int) ≤ x))))
def KCon.verdict (C : KCon) (b : KBelief) (x : Int) : Int := cond (verdict1 C b x) (agreedK (fun s => meaningI (statusAt s.marks x)) b.states) 0
set_option maxRecDepth 100000 in
set_option maxHeartbeats 4000000 in
theorem verdict_any (v : CV) (C : KCon) (sv : SV) (b : KBelief) (x : Int) (w : World) (hC : ConAt w v C) (hS : StatesAt w sv b.states) : Calls Tryz.prog 13 #[v.val C, .agg #[.int .i64 b.party, .slice sv.A b.states.length sv.c], .int .i64 x] w (RetB (.int .i64 (C.verdict b x)) w) := by
 obtain ⟨⟨hA, hcp⟩, ⟨uA, ucp⟩, ⟨aA, acp⟩, ⟨kA, kcp⟩, ⟨oA, ocp⟩⟩ := v
 obtain ⟨bA, bc⟩ := sv
 obtain ⟨pt, ss⟩ := b
 simp only at hS ⊢
 have HC := Lib.hid hC; clear hC
 have HS := Lib.hid hS; clear hS
 simp only [CV.val, CV.cells]
 generalize hE : C.verdict ⟨pt, ss⟩ x = E
 simp only [KCon.verdict] at hE
 have HE := Lib.hid hE; clear hE
 go_enter Tryz.func13, Tryz.ntmps13
 go_upto_region 1 with (fail)
 generalize hW0 : World.alloc _ _ = W0
 obtain ⟨HB, hh0, hh1, hh2⟩ := bx3 hW0
 clear hW0
 obtain ⟨k0_0, k0_1, k0_2, k0_3, k0_4, k0_5, k0_6⟩ := kc7 hh0
 clear hh0
 obtain ⟨k1_0, k1_1⟩ := kc2 hh1
 clear hh1
 have k2_0 := kcell (i := 0) hh2 rfl
 clear hh2
 change Code.wp _ _ _ _ (Bl.val (⟨W0, Below.refl _ _⟩ : Bl W0))
 generalize (⟨W0, Below.refl _ _⟩ : Bl W0) = s0
 have hbv : ∀ z : Bl W0, Calls Tryz.prog 35 #[.agg #[.int .i64 C.parties, .slice hA C.holders.length hcp, .slice uA C.units.length ucp, .slice aA C.acts.length acp, .slice kA C.clauses.length kcp, .int .i64 C.days, .slice oA C.off.length ocp], .agg #[.int .i64 pt, .slice bA ss.length bc]] z.val (RetB (.bool (C.okBelief ⟨pt, ss⟩)) z.val) := fun z => beliefValid_any (⟨⟨hA, hcp⟩, ⟨uA, ucp⟩, ⟨aA, acp⟩, ⟨kA, kcp⟩, ⟨oA, ocp⟩⟩ : CV) C ⟨bA, bc⟩ ⟨pt, ss⟩ z.val (HC.out.below (Below.step HB.out z.prop)) (HS.out.below (Below.step HB.out z.prop))
 have HBV := Lib.hid hbv; clear hbv
 focus
  cases q1 : (C.okBelief ⟨pt, ss⟩)
  focus
   have hP : verdict1 C ⟨pt, ss⟩ x = false := by unfold verdict1; rw [q1]; rfl
   obtain rfl : E = 0 := by rw [← HE.out, hP]; rfl
   clear hP
  rotate_left
  focus
   cases q2 : decide (x < 0)
   focus
    cases q3 : decide ((C.clauses.length : Int) ≤ x)
    focus
     have hP : verdict1 C ⟨pt, ss⟩ x = true := by unfold verdict1; rw [q1, q2, q3]; rfl
     have HP1 := Lib.hid hP; clear hP
     obtain ⟨hpos, hall⟩ := okBelief_state (by assumption : C.okBelief ⟨pt, ss⟩ = true)
     simp only at hpos hall
     have x0 : 0 ≤ x := by have h := (by assumption : decide (x < 0) = false); simpa using h
     have x1 : x < (C.clauses.length : Int) := by have h := (by assumption : decide ((C.clauses.length : Int) ≤ x) = false); simpa using h
     have HALL := Lib.hid hall; clear hall
     have hag : ∀ z : Bl W0, Calls Tryz.prog 36 #[.slice bA ss.length bc, .func (.func 37) #[] #[.pointer (some ⟨w.heap.size + 1 + 1, 0, none⟩)]] z.val (RetB (.int .i64 (agreedK (fun s => meaningI (statusAt s.marks x)) ss)) z.val) := fun z => agreed_verdict ⟨bA, bc⟩ ss (w.heap.size + 1 + 1) (fun s => meaningI (statusAt s.marks x)) z.val (HS.out.below (Below.step HB.out z.prop)) hpos (fun s hs tv W hW hst => verdict1_any tv s _ x W hst ((hW.cell (p := ⟨w.heap.size + 1 + 1, 0, none⟩) (World.block_lt_of_cell? _ ⟨w.heap.size + 1 + 1, 0, none⟩ (k2_0 z))).trans (k2_0 z)) x0 (by have h := (okState_len (HALL.out s hs)).2.2; omega))
     have HAG := Lib.hid hag; clear hag
     obtain rfl : E = agreedK (fun s => meaningI (statusAt s.marks x)) ss := by rw [← HE.out, HP1.out]; rfl
     generalize agreedK (fun s => meaningI (statusAt s.marks x)) ss = r at *
     go_wp2_with fail
     refine (HBV.out _).mono ?_
     rintro e z ⟨rfl, hz⟩
     obtain ⟨z1, rfl⟩ := Bl.on hz
     clear hz
     go_wp2_with fail
     refine (HAG.out _).mono ?_
     rintro e z ⟨rfl, hz⟩
     go_wp2
     go_ret
     exact ⟨rfl, Below.step HB.out (Below.step z1.prop hz)⟩
    focus
     have hP : verdict1 C ⟨pt, ss⟩ x = false := by unfold verdict1; rw [q1, q2, q3]; rfl
     obtain rfl : E = 0 := by rw [← HE.out, hP]; rfl
     clear hP
   rotate_left
   focus
    have hP : verdict1 C ⟨pt, ss⟩ x = false := by unfold verdict1; rw [q1, q2]; rfl
    obtain rfl : E = 0 := by rw [← HE.out, hP]; rfl
    clear hP
  all_goals
   go_wp2_with (first | (go_at_call 35; refine (HBV.out _).mono ?_; rintro e z ⟨rfl, hz⟩; obtain ⟨z, rfl⟩ := Bl.on hz; clear hz))
   first
    | (go_ret; exact ⟨rfl, Below.step HB.out (Bl.prop _)⟩)
    | (refine wp_region_bl (by kernel_rfl) (by kernel_rfl) ?_; (repeat (go_big_quiet_step ((first | (go_at_call 35; exact Calls.bl_of (HBV.out _)))))); refine wpQuiet_nil ?_; rintro _ ⟨zq, rfl⟩; go_wp2_with (first | (go_at_call 35; refine (HBV.out _).mono ?_; rintro e z ⟨rfl, hz⟩; obtain ⟨z, rfl⟩ := Bl.on hz; clear hz)); go_ret; exact ⟨rfl, Below.step HB.out (Bl.prop _)⟩)
def blames1 (C : KCon) (b : KBelief) (x : Int) : Bool := ((C.okBelief b) && ((!decide (x < 0)) && (!decide (C.parties ≤ x))))
def KCon.blames (C : KCon) (b : KBelief) (x : Int) : Int := cond (blames1 C b x) (agreedK (fun s => blameI (C.breach s x)) b.states) 0
set_option maxRecDepth 100000 in
set_option maxHeartbeats 4000000 in
theorem blames_any (v : CV) (C : KCon) (sv : SV) (b : KBelief) (x : Int) (w : World) (hC : ConAt w v C) (hS : StatesAt w sv b.states) : Calls Tryz.prog 15 #[v.val C, .agg #[.int .i64 b.party, .slice sv.A b.states.length sv.c], .int .i64 x] w (RetB (.int .i64 (C.blames b x)) w) := by
 obtain ⟨⟨hA, hcp⟩, ⟨uA, ucp⟩, ⟨aA, acp⟩, ⟨kA, kcp⟩, ⟨oA, ocp⟩⟩ := v
 obtain ⟨bA, bc⟩ := sv
 obtain ⟨pt, ss⟩ := b
 simp only at hS ⊢
 have HC := Lib.hid hC; clear hC
 have HS := Lib.hid hS; clear hS
 simp only [CV.val, CV.cells]
 generalize hE : C.blames ⟨pt, ss⟩ x = E
 simp only [KCon.blames] at hE
 have HE := Lib.hid hE; clear hE
 go_enter Tryz.func15, Tryz.ntmps15
 go_upto_region 1 with (fail)
 generalize hW0 : World.alloc _ _ = W0
 obtain ⟨HB, hh0, hh1, hh2⟩ := bx3 hW0
 clear hW0
 obtain ⟨k0_0, k0_1, k0_2, k0_3, k0_4, k0_5, k0_6⟩ := kc7 hh0
 clear hh0
 obtain ⟨k1_0, k1_1⟩ := kc2 hh1
 clear hh1
 have k2_0 := kcell (i := 0) hh2 rfl
 clear hh2
 change Code.wp _ _ _ _ (Bl.val (⟨W0, Below.refl _ _⟩ : Bl W0))
 generalize (⟨W0, Below.refl _ _⟩ : Bl W0) = s0
 have hbv : ∀ z : Bl W0, Calls Tryz.prog 35 #[.agg #[.int .i64 C.parties, .slice hA C.holders.length hcp, .slice uA C.units.length ucp, .slice aA C.acts.length acp, .slice kA C.clauses.length kcp, .int .i64 C.days, .slice oA C.off.length ocp], .agg #[.int .i64 pt, .slice bA ss.length bc]] z.val (RetB (.bool (C.okBelief ⟨pt, ss⟩)) z.val) := fun z => beliefValid_any (⟨⟨hA, hcp⟩, ⟨uA, ucp⟩, ⟨aA, acp⟩, ⟨kA, kcp⟩, ⟨oA, ocp⟩⟩ : CV) C ⟨bA, bc⟩ ⟨pt, ss⟩ z.val (HC.out.below (Below.step HB.out z.prop)) (HS.out.below (Below.step HB.out z.prop))
 have HBV := Lib.hid hbv; clear hbv
 focus
  cases q1 : (C.okBelief ⟨pt, ss⟩)
  focus
   have hP : blames1 C ⟨pt, ss⟩ x = false := by unfold blames1; rw [q1]; rfl
   obtain rfl : E = 0 := by rw [← HE.out, hP]; rfl
   clear hP
  rotate_left
  focus
   cases q2 : decide (x < 0)
   focus
    cases q3 : decide (C.parties ≤ x)
    focus
     have hP : blames1 C ⟨pt, ss⟩ x = true := by unfold blames1; rw [q1, q2, q3]; rfl
     have HP1 := Lib.hid hP; clear hP
     obtain ⟨hpos, hall⟩ := okBelief_state (by assumption : C.okBelief ⟨pt, ss⟩ = true)
     simp only at hpos hall
     have HALL := Lib.hid hall; clear hall
     have hag : ∀ z : Bl W0, Calls Tryz.prog 36 #[.slice bA ss.length bc, .func (.func 40) #[] #[.pointer (some ⟨w.heap.size, 0, none⟩), .pointer (some ⟨w.heap.size + 1 + 1, 0, none⟩)]] z.val (RetB (.int .i64 (agreedK (fun s => blameI (C.breach s x)) ss)) z.val) := fun z => agreed_blames ⟨bA, bc⟩ ss (w.heap.size) (w.heap.size + 1 + 1) (fun s => blameI (C.breach s x)) z.val (HS.out.below (Below.step HB.out z.prop)) hpos (fun s hs tv W hW hst => blames1_any (⟨⟨hA, hcp⟩, ⟨uA, ucp⟩, ⟨aA, acp⟩, ⟨kA, kcp⟩, ⟨oA, ocp⟩⟩ : CV) C tv s _ _ x W ((HC.out.below (Below.step HB.out z.prop)).below hW) hst ((hW.cell (p := ⟨w.heap.size, 0, none⟩) (World.block_lt_of_cell? _ ⟨w.heap.size, 0, none⟩ (k0_0 z))).trans (k0_0 z)) ((hW.cell (p := ⟨w.heap.size, 1, none⟩) (World.block_lt_of_cell? _ ⟨w.heap.size, 1, none⟩ (k0_1 z))).trans (k0_1 z)) ((hW.cell (p := ⟨w.heap.size, 2, none⟩) (World.block_lt_of_cell? _ ⟨w.heap.size, 2, none⟩ (k0_2 z))).trans (k0_2 z)) ((hW.cell (p := ⟨w.heap.size, 3, none⟩) (World.block_lt_of_cell? _ ⟨w.heap.size, 3, none⟩ (k0_3 z))).trans (k0_3 z)) ((hW.cell (p := ⟨w.heap.size, 4, none⟩) (World.block_lt_of_cell? _ ⟨w.heap.size, 4, none⟩ (k0_4 z))).trans (k0_4 z)) ((hW.cell (p := ⟨w.heap.size, 5, none⟩) (World.block_lt_of_cell? _ ⟨w.heap.size, 5, none⟩ (k0_5 z))).trans (k0_5 z)) ((hW.cell (p := ⟨w.heap.size, 6, none⟩) (World.block_lt_of_cell? _ ⟨w.heap.size, 6, none⟩ (k0_6 z))).trans (k0_6 z)) ((hW.cell (p := ⟨w.heap.size + 1 + 1, 0, none⟩) (World.block_lt_of_cell? _ ⟨w.heap.size + 1 + 1, 0, none⟩ (k2_0 z))).trans (k2_0 z)))
     have HAG := Lib.hid hag; clear hag
     obtain rfl : E = agreedK (fun s => blameI (C.breach s x)) ss := by rw [← HE.out, HP1.out]; rfl
     generalize agreedK (fun s => blameI (C.breach s x)) ss = r at *
     go_wp2_with fail
     refine (HBV.out _).mono ?_
     rintro e z ⟨rfl, hz⟩
     obtain ⟨z1, rfl⟩ := Bl.on hz
     clear hz
     go_wp2_with fail
     refine (HAG.out _).mono ?_
     rintro e z ⟨rfl, hz⟩
     go_wp2
     go_ret
     exact ⟨rfl, Below.step HB.out (Below.step z1.prop hz)⟩
    focus
     have hP : blames1 C ⟨pt, ss⟩ x = false := by unfold blames1; rw [q1, q2, q3]; rfl
     obtain rfl : E = 0 := by rw [← HE.out, hP]; rfl
     clear hP
   rotate_left
   focus
    have hP : blames1 C ⟨pt, ss⟩ x = false := by unfold blames1; rw [q1, q2]; rfl
    obtain rfl : E = 0 := by rw [← HE.out, hP]; rfl
    clear hP
  all_goals
   go_wp2_with (first | (go_at_call 35; refine (HBV.out _).mono ?_; rintro e z ⟨rfl, hz⟩; obtain ⟨z, rfl⟩ := Bl.on hz; clear hz))
   first
    | (go_ret; exact ⟨rfl, Below.step HB.out (Bl.prop _)⟩)
    | (refine wp_region_bl (by kernel_rfl) (by kernel_rfl) ?_; (repeat (go_big_quiet_step ((first | (go_at_call 35; exact Calls.bl_of (HBV.out _)))))); refine wpQuiet_nil ?_; rintro _ ⟨zq, rfl⟩; go_wp2_with (first | (go_at_call 35; refine (HBV.out _).mono ?_; rintro e z ⟨rfl, hz⟩; obtain ⟨z, rfl⟩ := Bl.on hz; clear hz)); go_ret; exact ⟨rfl, Below.step HB.out (Bl.prop _)⟩)
end Go.Proofs.YtaielhafpmjkaaaGreatDoor
namespace Go.Proofs.YtaielhafpmjkaaaGreatDoor
open Go.RowKit
def KCon.seesAt (C : KCon) (s : KState) (pt ac : Int) : Bool := match C.acts[ac.toNat]? with | some a => seesK s a pt | none => false
def KCon.sees (C : KCon) (s : KState) (pt ac : Int) : Bool := ((C.okState s) && (decide (0 ≤ pt) && (decide (pt < C.parties) && (decide (0 ≤ ac) && (decide (ac < (C.acts.length : Int)) && (C.seesAt s pt ac))))))
theorem okAct_roles {C : KCon} {a : KAct} (h : C.okAct a = true) : ((a.kind == 1) = true → (a.tgt == -1) = false → C.role a.tgt = true) ∧ ((a.role == -1) = false → C.role a.role = true) := by
 unfold KCon.okAct okActB at h
 refine ⟨fun h1 h2 => ?_, fun h1 => ?_⟩
 · rw [h1, h2] at h
   cases h3 : C.role a.tgt with
   | true => rfl
   | false =>
    rw [h3] at h
    cases h4 : C.role a.role <;> cases h5 : (a.role == -1) <;> cases h6 : (a.give == 0) <;> rw [h4] at h <;> simp [h5, h6] at h
 · cases h4 : C.role a.role with
   | true => rfl
   | false =>
    rw [h4, h1] at h
    cases h5 : (a.kind == 1) <;> simp [h5] at h
theorem valid_act {C : KCon} (h : C.valid = true) {i : Nat} {a : KAct} (ha : C.acts[i]? = some a) : C.okAct a = true := by
 unfold KCon.valid at h
 simp only [Bool.and_eq_true] at h
 have h1 := h.2.1
 unfold KCon.framed at h1
 simp only [Bool.and_eq_true] at h1
 cases e : C.okAct a with
 | true => rfl
 | false => rw [okActs_bad ha e] at h1; simp at h1
theorem valid_holders {C : KCon} (h : C.valid = true) : 0 < C.holders.length := by
 unfold KCon.valid at h
 simp only [Bool.and_eq_true] at h
 have h1 := h.2.1
 unfold KCon.framed fr1 at h1
 simp only [Bool.and_eq_true, Bool.not_eq_true', beq_eq_false_iff_ne, ne_eq] at h1
 omega
theorem okState_valid {C : KCon} {s : KState} (h : C.okState s = true) : C.valid = true := by
 unfold KCon.okState at h
 simp only [Bool.and_eq_true] at h
 exact h.1
theorem role_yes {C : KCon} {r : Int} (h : C.role r = true) : 0 ≤ r ∧ r < C.holders.length := by simpa [KCon.role] using h
set_option maxRecDepth 100000 in
set_option maxHeartbeats 4000000 in
theorem seesPub_any (v : CV) (C : KCon) (tv : TV) (s : KState) (pt ac : Int) (w : World) (hC : ConAt w v C) (hS : StateAt w tv s) : Calls Tryz.prog 22 #[v.val C, tv.val s, .int .i64 pt, .int .i64 ac] w (RetB (.bool (C.sees s pt ac)) w) := by
 obtain ⟨⟨hA, hcp⟩, ⟨uA, ucp⟩, ⟨aA, acp⟩, ⟨kA, kcp⟩, ⟨oA, ocp⟩⟩ := v
 obtain ⟨⟨shA, shc⟩, ⟨suA, suc⟩, ⟨smA, smc⟩⟩ := tv
 have HC := Lib.hid hC; clear hC
 have HS := Lib.hid hS; clear hS
 simp only [CV.val, CV.cells, TV.val, TV.cells, KState.cells]
 generalize hE : C.sees s pt ac = E
 have HE := Lib.hid hE; clear hE
 go_enter Tryz.func22, Tryz.ntmps22
 go_upto_region 1 with (fail)
 generalize hW0 : World.alloc _ _ = W0
 obtain ⟨HB, hh0, hh1⟩ := bx2 hW0
 clear hW0
 obtain ⟨k0_0, k0_1, k0_2, k0_3, k0_4, k0_5, k0_6⟩ := kc7 hh0
 clear hh0
 obtain ⟨k1_0, k1_1, k1_2, k1_3⟩ := kc4 hh1
 clear hh1
 change Code.wp _ _ _ _ (Bl.val (⟨W0, Below.refl _ _⟩ : Bl W0))
 generalize (⟨W0, Below.refl _ _⟩ : Bl W0) = s0
 have hsv : ∀ z : Bl W0, Calls Tryz.prog 19 #[.agg #[.int .i64 C.parties, .slice hA C.holders.length hcp, .slice uA C.units.length ucp, .slice aA C.acts.length acp, .slice kA C.clauses.length kcp, .int .i64 C.days, .slice oA C.off.length ocp], .agg #[.int .i64 s.day, .slice shA s.holders.length shc, .slice suA s.used.length suc, .slice smA s.marks.length smc]] z.val (RetB (.bool (C.okState s)) z.val) := fun z => stateValid_any (⟨⟨hA, hcp⟩, ⟨uA, ucp⟩, ⟨aA, acp⟩, ⟨kA, kcp⟩, ⟨oA, ocp⟩⟩ : CV) C (⟨⟨shA, shc⟩, ⟨suA, suc⟩, ⟨smA, smc⟩⟩ : TV) s z.val (HC.out.below (Below.step HB.out z.prop)) (HS.out.below (Below.step HB.out z.prop))
 have HSV := Lib.hid hsv; clear hsv
 have hse : C.okState s = true → 0 ≤ ac → ac < (C.acts.length : Int) → ∀ z : Bl W0, Calls Tryz.prog 50 #[.agg #[.int .i64 C.parties, .slice hA C.holders.length hcp, .slice uA C.units.length ucp, .slice aA C.acts.length acp, .slice kA C.clauses.length kcp, .int .i64 C.days, .slice oA C.off.length ocp], .agg #[.int .i64 s.day, .slice shA s.holders.length shc, .slice suA s.used.length suc, .slice smA s.marks.length smc], .int .i64 pt, .int .i64 ac] z.val (RetB (.bool (C.seesAt s pt ac)) z.val) := fun ho h0 h1 z => by
  obtain ⟨i, rfl⟩ := Int.eq_ofNat_of_zero_le h0
  have hi : i < C.acts.length := by omega
  obtain ⟨a, ha⟩ : ∃ a, C.acts[i]? = some a := ⟨C.acts[i], List.getElem?_eq_getElem hi⟩
  have hl := (okState_len ho).1
  have hv := okState_valid ho
  have hr := okAct_roles (valid_act hv ha)
  have h := sees_any (⟨⟨hA, hcp⟩, ⟨uA, ucp⟩, ⟨aA, acp⟩, ⟨kA, kcp⟩, ⟨oA, ocp⟩⟩ : CV) C (⟨⟨shA, shc⟩, ⟨suA, suc⟩, ⟨smA, smc⟩⟩ : TV) s pt i a z.val (HC.out.below (Below.step HB.out z.prop)) (HS.out.below (Below.step HB.out z.prop)) ha (by rw [hl]; exact valid_holders hv) (fun h1 h2 => by rw [hl]; exact role_yes (hr.1 h1 h2)) (fun h1 => by rw [hl]; exact role_yes (hr.2 h1))
  have e : C.seesAt s pt (i : Int) = seesK s a pt := by simp [KCon.seesAt, ha]
  rw [e]
  exact h
 have HSE := Lib.hid hse; clear hse
 focus
  cases q1 : (C.okState s)
  focus
   have hP : C.sees s pt ac = false := by unfold KCon.sees; rw [q1]; rfl
   obtain rfl : E = false := by rw [← HE.out, hP]
   clear hP
  rotate_left
  focus
   cases q2 : decide (0 ≤ pt)
   focus
    have hP : C.sees s pt ac = false := by unfold KCon.sees; rw [q1, q2]; rfl
    obtain rfl : E = false := by rw [← HE.out, hP]
    clear hP
   rotate_left
   focus
    cases q3 : decide (pt < C.parties)
    focus
     have hP : C.sees s pt ac = false := by unfold KCon.sees; rw [q1, q2, q3]; rfl
     obtain rfl : E = false := by rw [← HE.out, hP]
     clear hP
    rotate_left
    focus
     cases q4 : decide (0 ≤ ac)
     focus
      have hP : C.sees s pt ac = false := by unfold KCon.sees; rw [q1, q2, q3, q4]; rfl
      obtain rfl : E = false := by rw [← HE.out, hP]
      clear hP
     rotate_left
     focus
      cases q5 : decide (ac < (C.acts.length : Int))
      focus
       have hP : C.sees s pt ac = false := by unfold KCon.sees; rw [q1, q2, q3, q4, q5]; rfl
       obtain rfl : E = false := by rw [← HE.out, hP]
       clear hP
      rotate_left
      focus
       cases q6 : (C.seesAt s pt ac)
       focus
        have hP : C.sees s pt ac = false := by unfold KCon.sees; rw [q1, q2, q3, q4, q5, q6]; rfl
        obtain rfl : E = false := by rw [← HE.out, hP]
        clear hP
       rotate_left
       focus
        have hP : C.sees s pt ac = true := by unfold KCon.sees; rw [q1, q2, q3, q4, q5, q6]; rfl
        obtain rfl : E = true := by rw [← HE.out, hP]
        clear hP
  all_goals
   go_wp2_with (first | (go_at_call 19; refine (HSV.out _).mono ?_; rintro e z ⟨rfl, hz⟩; obtain ⟨z, rfl⟩ := Bl.on hz; clear hz) | (go_at_call 50; refine (HSE.out (by assumption) (of_decide_eq_true (by assumption)) (of_decide_eq_true (by assumption)) _).mono ?_; rintro e z ⟨rfl, hz⟩; obtain ⟨z, rfl⟩ := Bl.on hz; clear hz))
   first
    | (go_ret; exact ⟨rfl, Below.step HB.out (Bl.prop _)⟩)
    | (refine wp_region_bl (by kernel_rfl) (by kernel_rfl) ?_; (repeat (go_big_quiet_step ((first | (go_at_call 19; exact Calls.bl_of (HSV.out _)) | (go_at_call 50; exact Calls.bl_of (HSE.out (by assumption) (of_decide_eq_true (by assumption)) (of_decide_eq_true (by assumption)) _)))))); refine wpQuiet_nil ?_; rintro _ ⟨zq, rfl⟩; go_wp2_with (first | (go_at_call 19; refine (HSV.out _).mono ?_; rintro e z ⟨rfl, hz⟩; obtain ⟨z, rfl⟩ := Bl.on hz; clear hz) | (go_at_call 50; refine (HSE.out (by assumption) (of_decide_eq_true (by assumption)) (of_decide_eq_true (by assumption)) _).mono ?_; rintro e z ⟨rfl, hz⟩; obtain ⟨z, rfl⟩ := Bl.on hz; clear hz)); go_ret; exact ⟨rfl, Below.step HB.out (Bl.prop _)⟩)
end Go.Proofs.YtaielhafpmjkaaaGreatDoor
