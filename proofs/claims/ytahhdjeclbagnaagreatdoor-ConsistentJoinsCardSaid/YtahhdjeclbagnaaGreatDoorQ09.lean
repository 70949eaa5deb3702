/-
  Con7; Con8
-/
import Derived.Test.YtahhdjeclbagnaaGreatDoorQ08
import Derived.Test.YtahhdjeclbagnaaGreatDoorQ04
import Derived.Test.YtahhdjeclbagnaaGreatDoorQ05
import Derived.Test.YtahhdjeclbagnaaGreatDoorQ06
import Derived.Test.YtahhdjeclbagnaaGreatDoorQ07
namespace Go.Proofs.YtahhdjeclbagnaaGreatDoor
open Go.RowKit
def KCon.okAct (C : KCon) (a : KAct) : Bool := okActB C a.kind a.role a.give a.tgt a.unit a.lot.num a.lot.den
def KCon.okActs (C : KCon) : Bool := C.acts.all (fun a => C.okAct a)
def offOk (days : Int) : Int → List Int → Bool
 | _, [] => true
 | last, d :: l => (!decide (d ≤ last)) && ((!decide (days ≤ d)) && offOk days d l)
def fr1 (C : KCon) : Bool := ((!decide (C.parties < 1)) && ((!decide (C.days < 1)) && ((!((C.holders.length : Int) == 0)) && C.held)))
def KCon.framed (C : KCon) : Bool := fr1 C && (okUnits C.units && (C.okActs && offOk C.days (-1) C.off))
theorem okActs_bad {C : KCon} {j : Nat} {x : KAct} (hx : C.acts[j]? = some x) (h : C.okAct x = false) : C.okActs = false := by
 cases e : C.okActs with
 | false => rfl
 | true =>
  unfold KCon.okActs at e
  rw [List.all_eq_true.1 e x (List.mem_of_getElem? hx)] at h
  cases h
theorem okActs_all {C : KCon} (h : ∀ (j : Nat) (x : KAct), C.acts[j]? = some x → C.okAct x = true) : C.okActs = true := by
 unfold KCon.okActs
 rw [List.all_eq_true]
 intro x hx
 obtain ⟨j, hj⟩ := List.getElem?_of_mem hx
 exact h j x hj
theorem drop_get {α : Type} {l : List α} {j : Nat} {x : α} (h : l[j]? = some x) : l.drop j = x :: l.drop (j + 1) := by
 obtain ⟨hj, rfl⟩ := List.getElem?_eq_some_iff.1 h
 exact List.drop_eq_getElem_cons hj
set_option maxRecDepth 100000 in
set_option maxHeartbeats 4000000 in
theorem framed_any (v : CV) (C : KCon) (w : World) (hC : ConAt w v C) (hp : C.parties ≤ 1000) (hu : C.units.length ≤ 1000) : Calls Tryz.prog 46 #[v.val C] w (RetB (.bool C.framed) w) := by
 obtain ⟨⟨hA, hcp⟩, ⟨uA, ucp⟩, ⟨aA, acp⟩, ⟨kA, kcp⟩, ⟨oA, ocp⟩⟩ := v
 have hax : C.acts.length ≤ 9223372036854775807 := by have h1 := hC.acts.2.2.1; have h2 := hC.acts.2.2.2; unfold maxLen at h2; omega
 have hox : C.off.length ≤ 9223372036854775807 := by have h1 := hC.off.2.2.1; have h2 := hC.off.2.2.2; unfold maxLen at h2; omega
 have HC := Lib.hid hC; clear hC
 simp only [CV.val, CV.cells]
 generalize hE : C.framed = E
 simp only [KCon.framed] at hE
 have HE := Lib.hid hE; clear hE
 go_enter Tryz.func46, Tryz.ntmps46
 go_upto_region 1 with (fail)
 generalize hW0 : World.alloc _ _ = W0
 obtain ⟨HB, hh0⟩ := bx1 hW0
 have HW0 := Lib.hid hW0.symm
 clear hW0
 obtain ⟨k0_0, k0_1, k0_2, k0_3, k0_4, k0_5, k0_6⟩ := kc7 hh0
 clear hh0
 change Code.wp _ _ _ _ (Bl.val (⟨W0, Below.refl _ _⟩ : Bl W0))
 generalize (⟨W0, Below.refl _ _⟩ : Bl W0) = s0
 have hh : ∀ s : Bl W0, Calls Tryz.prog 65 #[.agg #[.int .i64 C.parties, .slice hA C.holders.length hcp, .slice uA C.units.length ucp, .slice aA C.acts.length acp, .slice kA C.clauses.length kcp, .int .i64 C.days, .slice oA C.off.length ocp]] s.val (RetB (.bool C.held) s.val) := fun s => held_any (⟨⟨hA, hcp⟩, ⟨uA, ucp⟩, ⟨aA, acp⟩, ⟨kA, kcp⟩, ⟨oA, ocp⟩⟩ : CV) C s.val (HC.out.below (Below.step HB.out s.prop)) hp
 have HH := Lib.hid hh; clear hh
 have hun : ∀ s : Bl W0, Calls Tryz.prog 66 #[.slice uA C.units.length ucp] s.val (UnitsPost C.units s.val) := fun s => unitsValid_any uA ucp C.units s.val (HC.out.below (Below.step HB.out s.prop)).units hu
 have HUN := Lib.hid hun; clear hun
 have hac : ∀ (a : KAct) (s : Bl W0), Calls Tryz.prog 67 #[.agg #[.int .i64 C.parties, .slice hA C.holders.length hcp, .slice uA C.units.length ucp, .slice aA C.acts.length acp, .slice kA C.clauses.length kcp, .int .i64 C.days, .slice oA C.off.length ocp], .agg #[.int .i64 a.kind, .int .i64 a.role, .int .i64 a.give, .int .i64 a.tgt, .int .i64 a.unit, .int .i64 a.lot.num, .int .i64 a.lot.den]] s.val (RetB (.bool (C.okAct a)) s.val) := fun a s => validAct_raw (⟨⟨hA, hcp⟩, ⟨uA, ucp⟩, ⟨aA, acp⟩, ⟨kA, kcp⟩, ⟨oA, ocp⟩⟩ : CV) C a.kind a.role a.give a.tgt a.unit a.lot.num a.lot.den s.val
 have HAC := Lib.hid hac; clear hac
 focus
  cases q1 : decide (C.parties < 1)
  focus
   cases q2 : decide (C.days < 1)
   focus
    cases q3 : ((C.holders.length : Int) == 0)
    focus
     cases q4 : C.held
     focus
      have hP1 : fr1 C = false := by unfold fr1; rw [q1, q2, q3, q4]; rfl
      obtain rfl : E = false := by rw [← HE.out, hP1]; rfl
     rotate_left
     focus
      have hP1 : fr1 C = true := by unfold fr1; rw [q1, q2, q3, q4]; rfl
      have HP1 := Lib.hid hP1; clear hP1
      go_wp2_with fail
      refine (HH.out _).mono ?_
      rintro e z ⟨rfl, hz⟩
      obtain ⟨z1, rfl⟩ := Bl.on hz
      clear hz
      go_wp2_with fail
      refine (HUN.out _).mono ?_
      rintro e z ⟨n, rfl, hz⟩
      obtain ⟨z2, rfl⟩ := Bl.on hz
      clear hz
      cases hcu : okUnits C.units
      focus
       obtain rfl : E = false := by rw [← HE.out, HP1.out, hcu]; rfl
       go_wp2
       go_ret
       exact ⟨rfl, Below.step HB.out (Bl.prop _)⟩
      focus
       have HCU := Lib.hid hcu; clear hcu
       go_wp2
       go_loopg [40] C.acts.length (fun gk v40 wr => ∃ (j : Nat) (z : Bl W0), gk = C.acts.length - j ∧ j ≤ C.acts.length ∧ v40 = .int .i64 j ∧ wr = z.val ∧ Hid (∀ (i : Nat) (x : KAct), i < j → C.acts[i]? = some x → C.okAct x = true))
       case atStart => exact ⟨0, _, rfl, Nat.zero_le _, rfl, rfl, fun i x h => by omega⟩
       case round =>
        obtain ⟨j, z, hgk, hj, rfl, rfl, hpre⟩ := hrel
        have HGK := Lib.hid hgk; clear hgk
        by_cases hlt : j < C.acts.length
        · obtain ⟨a, ha⟩ : ∃ a, C.acts[j]? = some a := ⟨C.acts[j], List.getElem?_eq_getElem hlt⟩
          obtain ⟨b, off, hA0, hb, hcell⟩ := HC.out.act ha
          simp only at hA0
          subst hA0
          have hcw := hcell z.val (Below.step HB.out z.prop)
          clear hcell
          have hca := HAC.out a
          generalize hv : C.okAct a = vv at hca
          have HV := Lib.hid hv; clear hv
          have HAJ := Lib.hid ha; clear ha
          obtain ⟨ki, ro, gi, tg, un, ⟨ln, ld⟩⟩ := a
          obtain ⟨e0, e1, e2, e3, e4, e5, e6⟩ := rw7 hcw rfl
          clear hcw
          have hl0 : w.heap.size < z.val.heap.size := Nat.lt_of_lt_of_le (by rw [HW0.out]; simp) z.prop.size
          have j1 : (j : Int) < (C.acts.length : Int) := by omega
          have HCA : Hid (∀ s : Bl W0, Calls Tryz.prog 67 #[.agg #[.int .i64 C.parties, .slice hA C.holders.length hcp, .slice uA C.units.length ucp, .slice (some ⟨b, off, none⟩) C.acts.length acp, .slice kA C.clauses.length kcp, .int .i64 C.days, .slice oA C.off.length ocp], .agg #[.int .i64 ki, .int .i64 ro, .int .i64 gi, .int .i64 tg, .int .i64 un, .int .i64 ln, .int .i64 ld]] s.val (RetB (.bool vv) s.val)) := hca
          clear hca
          go_wp2_with fail
          have HZ : Hid (Calls Tryz.prog 67 #[.agg #[.int .i64 C.parties, .slice hA C.holders.length hcp, .slice uA C.units.length ucp, .slice (some ⟨b, off, none⟩) C.acts.length acp, .slice kA C.clauses.length kcp, .int .i64 C.days, .slice oA C.off.length ocp], .agg #[.int .i64 ki, .int .i64 ro, .int .i64 gi, .int .i64 tg, .int .i64 un, .int .i64 ln, .int .i64 ld]] (z.val.alloc (.cells #[.int .i64 ki, .int .i64 ro, .int .i64 gi, .int .i64 tg, .int .i64 un, .int .i64 ln, .int .i64 ld] 85)) (RetB (.bool vv) (z.val.alloc (.cells #[.int .i64 ki, .int .i64 ro, .int .i64 gi, .int .i64 tg, .int .i64 un, .int .i64 ln, .int .i64 ld] 85)))) := HCA.out ⟨_, Below.alloc' z.prop _⟩
          refine HZ.out.mono ?_
          rintro e y ⟨rfl, hy⟩
          obtain ⟨y1, rfl⟩ : ∃ y1 : Bl W0, y = y1.val := ⟨⟨y, Below.step (Below.alloc' z.prop _) hy⟩, rfl⟩
          clear hy HZ
          cases vv with
          | false =>
           obtain rfl : E = false := by rw [← HE.out, HP1.out, HCU.out, okActs_bad HAJ.out HV.out]; rfl
           go_wp2
           go_ret
           exact ⟨rfl, Below.step HB.out y1.prop⟩
          | true =>
           go_wp2
           go_roundg (C.acts.length - (j + 1))
           case measure => rw [HGK.out]; omega
           case rel => exact ⟨j + 1, y1, rfl, by omega, by go_num, rfl, fun i x hi hx => by
            by_cases e : i = j
            · subst e
              rw [HAJ.out] at hx
              injection hx with hx
              subst hx
              exact HV.out
            · exact hpre.out i x (by omega) hx⟩
        · obtain rfl : j = C.acts.length := by omega
          have HACT : Hid (C.okActs = true) := okActs_all (fun i x hx => hpre.out i x (List.getElem?_eq_some_iff.1 hx).1 hx)
          go_wp2
          go_loopg [52, 7] C.off.length (fun gk v52 v7 wr => ∃ (j : Nat) (last : Int), gk = C.off.length - j ∧ j ≤ C.off.length ∧ v52 = .int .i64 j ∧ v7 = .int .i64 last ∧ z.val = wr ∧ Hid (offOk C.days (-1) C.off = offOk C.days last (C.off.drop j)))
          case atStart => exact ⟨0, -1, rfl, Nat.zero_le _, rfl, rfl, rfl, rfl⟩
          case round =>
           obtain ⟨j, last, hgk, hj, rfl, rfl, rfl, hpre⟩ := hrel
           have HGK2 := Lib.hid hgk; clear hgk
           by_cases hlt : j < C.off.length
           · obtain ⟨b, off, hA0, hbl, hcell⟩ := (HC.out.below (Below.step HB.out z.prop)).off.1.form (by omega) (by omega)
             simp only at hA0
             subst hA0
             obtain ⟨d, hd⟩ : ∃ d, C.off[j]? = some d := ⟨C.off[j], List.getElem?_eq_getElem hlt⟩
             have kx : z.val.cell? ⟨b, off + j, none⟩ = some (.int .i64 d) := by rw [hcell _ (by omega)]; simp [ints, hd]
             clear hcell
             have HD := Lib.hid hd; clear hd
             have hst := hpre.out
             rw [drop_get HD.out] at hst
             have HST := Lib.hid hst; clear hst
             have j1 : (j : Int) < (C.off.length : Int) := by omega
             cases q1 : decide (d ≤ last) with
             | true =>
              obtain rfl : E = false := by rw [← HE.out, HP1.out, HCU.out, HACT.out, HST.out]; simp [offOk, q1]
              go_wp2
              go_ret
              exact ⟨rfl, Below.step HB.out z.prop⟩
             | false =>
              cases q2 : decide (C.days ≤ d) with
              | true =>
               obtain rfl : E = false := by rw [← HE.out, HP1.out, HCU.out, HACT.out, HST.out]; simp [offOk, q2]
               go_wp2
               go_ret
               exact ⟨rfl, Below.step HB.out z.prop⟩
              | false =>
               go_wp2
               go_roundg (C.off.length - (j + 1))
               case measure => rw [HGK2.out]; omega
               case rel => exact ⟨j + 1, d, rfl, by omega, by go_num, rfl, rfl, by show _ = _; rw [HST.out, offOk, q1, q2]; rfl⟩
           · obtain rfl : j = C.off.length := by omega
             obtain rfl : E = true := by rw [← HE.out, HP1.out, HCU.out, HACT.out, hpre.out, List.drop_of_length_le (Nat.le_refl _)]; rfl
             go_wp2
             go_ret
             exact ⟨rfl, Below.step HB.out z.prop⟩
    rotate_left
    focus
     have hP1 : fr1 C = false := by unfold fr1; rw [q1, q2, q3]; rfl
     obtain rfl : E = false := by rw [← HE.out, hP1]; rfl
   rotate_left 2
   focus
    have hP1 : fr1 C = false := by unfold fr1; rw [q1, q2]; rfl
    obtain rfl : E = false := by rw [← HE.out, hP1]; rfl
  rotate_left 3
  focus
   have hP1 : fr1 C = false := by unfold fr1; rw [q1]; rfl
   obtain rfl : E = false := by rw [← HE.out, hP1]; rfl
  all_goals
   go_wp2_with (first | (go_at_call 65; refine (HH.out _).mono ?_; rintro e z ⟨rfl, hz⟩; obtain ⟨z, rfl⟩ := Bl.on hz; clear hz))
   first
    | (go_ret; exact ⟨rfl, Below.step HB.out (Bl.prop _)⟩)
    | (refine wp_region_bl (by kernel_rfl) (by kernel_rfl) ?_; (repeat (go_big_quiet_step ((first | (go_at_call 65; exact Calls.bl_of (HH.out _)))))); refine wpQuiet_nil ?_; rintro _ ⟨zq, rfl⟩; go_wp2_with (first | (go_at_call 65; refine (HH.out _).mono ?_; rintro e z ⟨rfl, hz⟩; obtain ⟨z, rfl⟩ := Bl.on hz; clear hz)); go_ret; exact ⟨rfl, Below.step HB.out (Bl.prop _)⟩)
end Go.Proofs.YtahhdjeclbagnaaGreatDoor
namespace Go.Proofs.YtahhdjeclbagnaaGreatDoor
open Go.RowKit
theorem validClause_any (v : CV) (C : KCon) (i : Nat) (k : KClause) (w : World) (hC : ConAt w v C) (hk : C.clauses[i]? = some k) : Calls Tryz.prog 47 #[v.val C, .int .i64 i] w (RetB (.bool (C.okClause i k)) w) := by
 unfold KCon.okClause
 cases x1 : okCl1 C k.kind k.role k.act k.need k.grace k.after k.final k.start.length with
 | false => exact validClause_f1 v C i k w hC hk x1
 | true =>
  cases xc : condsOk C i k.start with
  | false => exact validClause_fc v C i k w hC hk x1 xc
  | true =>
   cases x2 : okCl2 C k.pause k.resume with
   | false => exact validClause_f2 v C i k w hC hk x1 xc x2
   | true =>
    simp only [Bool.true_and]
    cases q1 : (k.pause == -1) with
    | false =>
     cases q2 : (k.pause == k.resume) with
     | false =>
      cases q3 : (C.natural k.pause) with
      | false =>
       have e : okCl2 C k.pause k.resume = false := by unfold okCl2; rw [q1, q2, q3]; rfl
       rw [e] at x2; cases x2
      | true =>
       cases q4 : (C.natural k.resume) with
       | false =>
        have e : okCl2 C k.pause k.resume = false := by unfold okCl2; rw [q1, q2, q3, q4]; rfl
        rw [e] at x2; cases x2
       | true =>
        exact validClause_t0 v C i k w hC hk x1 xc q1 q2 q3 q4
     | true =>
      have e : okCl2 C k.pause k.resume = false := by unfold okCl2; rw [q1, q2]; rfl
      rw [e] at x2; cases x2
    | true =>
     cases q2 : (k.resume == -1) with
     | false =>
      cases q3 : (k.pause == k.resume) with
      | false =>
       cases q4 : (C.natural k.pause) with
       | false =>
        have e : okCl2 C k.pause k.resume = false := by unfold okCl2; rw [q1, q2, q3, q4]; rfl
        rw [e] at x2; cases x2
       | true =>
        cases q5 : (C.natural k.resume) with
        | false =>
         have e : okCl2 C k.pause k.resume = false := by unfold okCl2; rw [q1, q2, q3, q4, q5]; rfl
         rw [e] at x2; cases x2
        | true =>
         exact validClause_t1 v C i k w hC hk x1 xc q1 q2 q3 q4 q5
      | true =>
       have e : okCl2 C k.pause k.resume = false := by unfold okCl2; rw [q1, q2, q3]; rfl
       rw [e] at x2; cases x2
     | true =>
      exact validClause_t2 v C i k w hC hk x1 xc q1 q2
def KCon.over (C : KCon) : Bool := (decide (12 < C.parties) || (decide (2000 < C.days) || (decide (12 < (C.holders.length : Int)) || (decide (20 < (C.units.length : Int)) || (decide (60 < (C.acts.length : Int)) || decide (400 < (C.clauses.length : Int)))))))
def KCon.okClauses (C : KCon) : Bool := (List.range C.clauses.length).all (fun i => match C.clauses[i]? with | some k => C.okClause i k | none => true)
def KCon.errno (C : KCon) : Int := cond C.over 3 (cond (C.framed && C.okClauses) 0 1)
def KCon.valid (C : KCon) : Bool := (!C.over) && (C.framed && C.okClauses)
theorem okClauses_bad {C : KCon} {i : Nat} {k : KClause} (hk : C.clauses[i]? = some k) (h : C.okClause i k = false) : C.okClauses = false := by
 cases e : C.okClauses with
 | false => rfl
 | true =>
  unfold KCon.okClauses at e
  have hi : i < C.clauses.length := (List.getElem?_eq_some_iff.1 hk).1
  have := List.all_eq_true.1 e i (by simpa using hi)
  simp only [hk] at this
  rw [this] at h
  cases h
theorem okClauses_all {C : KCon} (h : ∀ (i : Nat) (k : KClause), C.clauses[i]? = some k → C.okClause i k = true) : C.okClauses = true := by
 unfold KCon.okClauses
 rw [List.all_eq_true]
 intro i _
 cases e : C.clauses[i]? with
 | none => rfl
 | some u => exact h i u e
theorem okClauses_at {C : KCon} (h : C.okClauses = true) {i : Nat} {k : KClause} (hk : C.clauses[i]? = some k) : C.okClause i k = true := by
 cases e : C.okClause i k with
 | true => rfl
 | false => rw [okClauses_bad hk e] at h; cases h
def ConPost (er : Int) (w : World) (e : Ending) (w' : World) : Prop := ∃ n : Int, e = .returned (.tuple #[.int .i64 er, .int .i64 n]) ∧ Below w.heap.size w w'
theorem conpost {er er2 n : Int} {w w' : World} (h : er = er2) (hb : Below w.heap.size w w') : ConPost er2 w (.returned (.tuple #[.int .i64 er, .int .i64 n])) w' := ⟨n, by rw [h], hb⟩
set_option maxRecDepth 100000 in
set_option maxHeartbeats 4000000 in
theorem conValid_any (v : CV) (C : KCon) (w : World) (hC : ConAt w v C) : Calls Tryz.prog 28 #[v.val C] w (ConPost C.errno w) := by
 obtain ⟨⟨hA, hcp⟩, ⟨uA, ucp⟩, ⟨aA, acp⟩, ⟨kA, kcp⟩, ⟨oA, ocp⟩⟩ := v
 have hkx : C.clauses.length ≤ 9223372036854775807 := by obtain ⟨_, _, h, _⟩ := hC.clauses; have h1 := h.2.2.1; have h2 := h.2.2.2; unfold maxLen at h2; omega
 have HC := Lib.hid hC; clear hC
 simp only [CV.val, CV.cells]
 generalize hE : C.errno = E
 simp only [KCon.errno] at hE
 have HE := Lib.hid hE; clear hE
 go_enter Tryz.func28, Tryz.ntmps28
 go_upto_region 1 with (fail)
 generalize hW0 : World.alloc _ _ = W0
 obtain ⟨HB, hh0⟩ := bx1 hW0
 clear hW0
 obtain ⟨k0_0, k0_1, k0_2, k0_3, k0_4, k0_5, k0_6⟩ := kc7 hh0
 clear hh0
 change Code.wp _ _ _ _ (Bl.val (⟨W0, Below.refl _ _⟩ : Bl W0))
 generalize (⟨W0, Below.refl _ _⟩ : Bl W0) = s0
 have hcl : ∀ (i : Nat) (k : KClause) (s : Bl W0), C.clauses[i]? = some k → Calls Tryz.prog 47 #[.agg #[.int .i64 C.parties, .slice hA C.holders.length hcp, .slice uA C.units.length ucp, .slice aA C.acts.length acp, .slice kA C.clauses.length kcp, .int .i64 C.days, .slice oA C.off.length ocp], .int .i64 i] s.val (RetB (.bool (C.okClause i k)) s.val) := fun i k s hk => validClause_any (⟨⟨hA, hcp⟩, ⟨uA, ucp⟩, ⟨aA, acp⟩, ⟨kA, kcp⟩, ⟨oA, ocp⟩⟩ : CV) C i k s.val (HC.out.below (Below.step HB.out s.prop)) hk
 have HCL := Lib.hid hcl; clear hcl
 focus
  cases q1 : decide (12 < C.parties)
  focus
   cases q2 : decide (2000 < C.days)
   focus
    cases q3 : decide (12 < (C.holders.length : Int))
    focus
     cases q4 : decide (20 < (C.units.length : Int))
     focus
      cases q5 : decide (60 < (C.acts.length : Int))
      focus
       cases q6 : decide (400 < (C.clauses.length : Int))
       focus
        have hP1 : C.over = false := by unfold KCon.over; rw [q1, q2, q3, q4, q5, q6]; rfl
        have HP1 := Lib.hid hP1; clear hP1
        have hfr : ∀ s : Bl W0, Calls Tryz.prog 46 #[.agg #[.int .i64 C.parties, .slice hA C.holders.length hcp, .slice uA C.units.length ucp, .slice aA C.acts.length acp, .slice kA C.clauses.length kcp, .int .i64 C.days, .slice oA C.off.length ocp]] s.val (RetB (.bool C.framed) s.val) := fun s => framed_any (⟨⟨hA, hcp⟩, ⟨uA, ucp⟩, ⟨aA, acp⟩, ⟨kA, kcp⟩, ⟨oA, ocp⟩⟩ : CV) C s.val (HC.out.below (Below.step HB.out s.prop)) (by have h := (by assumption : decide (12 < C.parties) = false); simp at h; omega) (by have h := (by assumption : decide (20 < (C.units.length : Int)) = false); simp at h; omega)
        have HFR := Lib.hid hfr; clear hfr
        go_wp2_with fail
        refine (HFR.out _).mono ?_
        rintro e z ⟨rfl, hz⟩
        obtain ⟨z1, rfl⟩ := Bl.on hz
        clear hz
        cases hf : C.framed
        focus
         go_wp2
         go_ret2
         exact conpost (by rw [← HE.out, HP1.out, hf]; rfl) (Below.step HB.out (Bl.prop _))
        focus
         have HF := Lib.hid hf; clear hf
         go_wp2
         go_loopg [43] C.clauses.length (fun gk v43 wr => ∃ (j : Nat) (z : Bl W0), gk = C.clauses.length - j ∧ j ≤ C.clauses.length ∧ v43 = .int .i64 j ∧ wr = z.val ∧ Hid (∀ (i : Nat) (x : KClause), i < j → C.clauses[i]? = some x → C.okClause i x = true))
         case atStart => exact ⟨0, _, rfl, Nat.zero_le _, rfl, rfl, fun i x h => by omega⟩
         case round =>
          obtain ⟨j, z, hgk, hj, rfl, rfl, hpre⟩ := hrel
          have HGK := Lib.hid hgk; clear hgk
          by_cases hlt : j < C.clauses.length
          · obtain ⟨k, hk⟩ : ∃ k, C.clauses[j]? = some k := ⟨C.clauses[j], List.getElem?_eq_getElem hlt⟩
            have hca := HCL.out j k z hk
            generalize hv : C.okClause j k = vv at hca
            have HV := Lib.hid hv; clear hv
            have HK := Lib.hid hk; clear hk
            have HCA := Lib.hid hca; clear hca
            have j1 : (j : Int) < (C.clauses.length : Int) := by omega
            go_wp2_with fail
            refine HCA.out.mono ?_
            rintro e y ⟨rfl, hy⟩
            obtain ⟨y1, rfl⟩ := Bl.on hy
            clear hy HCA
            cases vv with
            | false =>
             go_wp2
             go_ret2
             exact conpost (by rw [← HE.out, HP1.out, HF.out, okClauses_bad HK.out HV.out]; rfl) (Below.step HB.out (Bl.prop _))
            | true =>
             go_wp2
             go_roundg (C.clauses.length - (j + 1))
             case measure => rw [HGK.out]; omega
             case rel => exact ⟨j + 1, y1, rfl, by omega, by go_num, rfl, fun i x hi hx => by
              by_cases e : i = j
              · subst e
                rw [HK.out] at hx
                injection hx with hx
                subst hx
                exact HV.out
              · exact hpre.out i x (by omega) hx⟩
          · obtain rfl : j = C.clauses.length := by omega
            have HACT : Hid (C.okClauses = true) := okClauses_all (fun i x hx => hpre.out i x (List.getElem?_eq_some_iff.1 hx).1 hx)
            go_wp2
            go_ret2
            exact conpost (by rw [← HE.out, HP1.out, HF.out, HACT.out]; rfl) (Below.step HB.out z.prop)
       focus
        have hP1 : C.over = true := by unfold KCon.over; rw [q1, q2, q3, q4, q5, q6]; rfl
      rotate_left
      focus
       have hP1 : C.over = true := by unfold KCon.over; rw [q1, q2, q3, q4, q5]; rfl
     rotate_left 2
     focus
      have hP1 : C.over = true := by unfold KCon.over; rw [q1, q2, q3, q4]; rfl
    rotate_left 3
    focus
     have hP1 : C.over = true := by unfold KCon.over; rw [q1, q2, q3]; rfl
   rotate_left 4
   focus
    have hP1 : C.over = true := by unfold KCon.over; rw [q1, q2]; rfl
  rotate_left 5
  focus
   have hP1 : C.over = true := by unfold KCon.over; rw [q1]; rfl
  all_goals
   go_wp2
   go_ret2
   exact conpost (by rw [← HE.out, hP1]; rfl) (Below.step HB.out (Bl.prop _))
theorem KCon.errno_yes {C : KCon} (h : C.valid = true) : C.errno = 0 := by
 unfold KCon.valid at h
 unfold KCon.errno
 cases h1 : C.over <;> simp [h1] at h ⊢
 simp [h]
theorem KCon.errno_no {C : KCon} (h : C.valid = false) : (C.errno == 0) = false ∧ (C.errno != 0) = true := by
 unfold KCon.valid at h
 unfold KCon.errno
 cases h1 : C.over <;> cases h2 : (C.framed && C.okClauses) <;> simp [h1, h2] at h ⊢
theorem conValid_yes (v : CV) (C : KCon) (w : World) (hC : ConAt w v C) (h : C.valid = true) : Calls Tryz.prog 28 #[v.val C] w (ConPost 0 w) := by
 have := conValid_any v C w hC
 rw [KCon.errno_yes h] at this
 exact this
end Go.Proofs.YtahhdjeclbagnaaGreatDoor
