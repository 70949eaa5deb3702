/-
  RefB
-/
import Derived.Test.YtaielhafpmjkaaaGreatDoorQ49
namespace Go.Proofs.YtaielhafpmjkaaaGreatDoor
open Go.RowKit
def rU1 (us : List KUnit) (i : Nat) (nm : ByteArray) (ki ba fn fd : Int) : Bool := !(decide (20 ≤ (i : Int)) || (nm.toList.isEmpty || (((!(ki == 1)) && (!(ki == 2))) || ((!(KRatio.ok ⟨fn, fd⟩)) || (decide (fn < 1) || (decide (ba < 0) || decide ((us.length : Int) ≤ ba)))))))
def rU3 (us : List KUnit) (i : Nat) (ki ba fn fd : Int) : Bool := (uBase us ba == ba) && ((uKind us ba == ki) && ((!(ba == (i : Int))) || ((fn == 1) && (fd == 1))))
theorem rUnit_eq (us : List KUnit) (i : Nat) (u : KUnit) : (rU1 us i u.name u.kind u.base u.factor.num u.factor.den && (newName (us.take i) u.name && rU3 us i u.kind u.base u.factor.num u.factor.den)) = okUnit us i u := by
 obtain ⟨nm, ki, ba, ⟨fn, fd⟩⟩ := u
 simp only [okUnit, rU1, rU3, okU1, okU2, okU3, okU4, uIndex]
 rw [show decide (fn < 1) = decide (fn ≤ 0) by rw [decide_eq_decide]; omega, show decide (ba < 0) = !decide (0 ≤ ba) by rw [Bool.eq_iff_iff]; simp, show decide ((us.length : Int) ≤ ba) = !decide (ba < us.length) by rw [Bool.eq_iff_iff]; simp]
 cases decide (20 ≤ (i : Int)) <;> cases nm.toList.isEmpty <;> cases ki == 1 <;> cases ki == 2 <;> cases KRatio.ok ⟨fn, fd⟩ <;> cases decide (fn ≤ 0) <;> cases decide (0 ≤ ba) <;> cases decide (ba < (us.length : Int)) <;> cases newName (us.take i) nm <;> cases uBase us ba == ba <;> cases uKind us ba == ki <;> rfl
set_option maxRecDepth 100000 in
set_option maxHeartbeats 4000000 in
theorem rright_any (A : Option Addr) (c : Nat) (us : List KUnit) (i : Nat) (u : KUnit) (w : World) (hA : At w 5 A us.length c (us.flatMap KUnit.cells)) (hk : us[i]? = some u) (hn : us.length ≤ 1000) :
 Calls Tryz.prog 145 #[.slice A us.length c, .int .i64 i] w (RetB (.bool (okUnit us i u)) w) := by
 have hil : i < us.length := (List.getElem?_eq_some_iff.1 hk).1
 obtain ⟨b, off, rfl, hb, hcell⟩ := hA.1.form (by omega) (by omega)
 clear hA
 have hg : ∀ (x : Nat) (a : KUnit) (j : Nat), us[x]? = some a → j < 5 → w.cell? ⟨b, off + x * 5 + j, none⟩ = a.cells[j]? := fun x a j ha hj => by
  have hx : x < us.length := (List.getElem?_eq_some_iff.1 ha).1
  rw [Nat.add_assoc, hcell _ (by omega)]
  exact get_flat _ 5 (fun _ => rfl) us x j a ha hj
 clear hcell
 rw [← rUnit_eq]
 obtain ⟨nm, ki, ba, ⟨fn, fd⟩⟩ := u
 simp only
 generalize hE : (rU1 us i nm ki ba fn fd && (newName (us.take i) nm && rU3 us i ki ba fn fd)) = E
 have HE := Lib.hid hE; clear hE
 have c0 : w.cell? ⟨b, off + i * 5, none⟩ = some (.string nm) := hg i _ 0 hk (by omega)
 have c1 : w.cell? ⟨b, off + i * 5 + 1, none⟩ = some (.int .i64 ki) := hg i _ 1 hk (by omega)
 have c2 : w.cell? ⟨b, off + i * 5 + 2, none⟩ = some (.int .i64 ba) := hg i _ 2 hk (by omega)
 have c3 : w.cell? ⟨b, off + i * 5 + 3, none⟩ = some (.int .i64 fn) := hg i _ 3 hk (by omega)
 have c4 : w.cell? ⟨b, off + i * 5 + 4, none⟩ = some (.int .i64 fd) := hg i _ 4 hk (by omega)
 have HG := Lib.hid hg; clear hg
 have HK := Lib.hid hk; clear hk
 have HR := Lib.hid (fun W : World => rratio_any fn fd W)
 have i0 : (0 : Int) ≤ (i : Int) := by omega
 have i1 : (i : Int) < (us.length : Int) := by omega
 go_enter Tryz.func145, Tryz.ntmps145
 go_upto_region 2 with (fail)
 generalize hW0 : World.alloc _ _ = W0
 obtain ⟨HB, hh0⟩ := bx1 hW0; clear hW0
 obtain ⟨k0_0, k0_1, k0_2, k0_3, k0_4⟩ := kc5 hh0
 clear hh0
 change Code.wp _ _ _ _ (Bl.val (⟨W0, Below.refl _ _⟩ : Bl W0))
 generalize (⟨W0, Below.refl _ _⟩ : Bl W0) = s0
 clear c0 c1 c2 c3 c4
 have HCELL : Hid (∀ (s : Bl W0) (x : Nat) (a : KUnit) (j : Nat), us[x]? = some a → j < 5 → s.val.cell? ⟨b, off + x * 5 + j, none⟩ = a.cells[j]?) := fun s x a j ha hj => by
  rw [(Below.step HB.out s.prop).cell (p := ⟨b, off + x * 5 + j, none⟩) hb]
  exact HG.out x a j ha hj
 obtain ⟨b1, HP1, hE⟩ : ∃ b, Hid ((rU1 us i nm ki ba fn fd) = b) ∧ cond (rU1 us i nm ki ba fn fd) true false = b := ⟨_, rfl, (cd_self _).symm⟩
 simp only [rU1, cds] at hE
 repeat' (first | (replace hE := cd_t hE (by assumption)) | (replace hE := cd_f hE (by assumption)) | (replace hE := cd_eq hE; rcases hE with ⟨q, q', hE⟩ | ⟨q, q', hE⟩) | (replace hE := cd_any hE; rcases hE with ⟨q, hE⟩ | ⟨q, hE⟩) | fail)
 all_goals first
  | focus
   obtain rfl : b1 = false := hE.symm
   clear hE
   as_aux_lemma =>
    obtain rfl : E = false := by rw [← HE.out, HP1.out]; rfl
    go_wp2_with (first | (go_at_call 146; refine (lit (HR.out _) (by assumption)).mono ?_; rintro e z ⟨rfl, hz⟩; obtain ⟨z, rfl⟩ := Bl.on hz; clear hz) | (go_at_call 146; refine (HR.out _).mono ?_; rintro e z ⟨rfl, hz⟩; obtain ⟨z, rfl⟩ := Bl.on hz; clear hz))
    first
     | (go_ret; exact ⟨rfl, Below.step HB.out (Bl.prop _)⟩)
     | (refine wp_region_bl (by kernel_rfl) (by kernel_rfl) ?_; repeat (go_big_quiet_step (first | (go_at_call 146; exact Calls.bl_of (lit (HR.out _) (by assumption))) | (go_at_call 146; exact Calls.bl_of (HR.out _)))); refine wpQuiet_nil ?_; rintro _ ⟨zq, rfl⟩; go_wp2_with (first | (go_at_call 146; refine (lit (HR.out _) (by assumption)).mono ?_; rintro e z ⟨rfl, hz⟩; obtain ⟨z, rfl⟩ := Bl.on hz; clear hz) | (go_at_call 146; refine (HR.out _).mono ?_; rintro e z ⟨rfl, hz⟩; obtain ⟨z, rfl⟩ := Bl.on hz; clear hz)); go_ret; exact ⟨rfl, Below.step HB.out (Bl.prop _)⟩)
  | focus
   obtain rfl : b1 = true := hE.symm
   clear hE
   as_aux_lemma =>
    go_wp2_with (first | (go_at_call 146; refine (lit (HR.out _) (by assumption)).mono ?_; rintro e z ⟨rfl, hz⟩; obtain ⟨z, rfl⟩ := Bl.on hz; clear hz) | (go_at_call 146; refine (HR.out _).mono ?_; rintro e z ⟨rfl, hz⟩; obtain ⟨z, rfl⟩ := Bl.on hz; clear hz))
    go_loopg [6] i (fun gk v6 wr => ∃ (j : Nat) (z : Bl W0), gk = i - j ∧ j ≤ i ∧ v6 = .int .i64 j ∧ wr = z.val ∧ Hid (newName (us.take j) nm = true))
    case atStart => exact ⟨0, _, rfl, Nat.zero_le _, rfl, rfl, rfl⟩
    case round =>
     obtain ⟨j, z, hgk, hj, rfl, rfl, hpre⟩ := hrel
     have HGK := Lib.hid hgk; clear hgk
     by_cases hlt : j < i
     · obtain ⟨⟨om, ok, ob, ⟨ofn, ofd⟩⟩, hx⟩ : ∃ x, us[j]? = some x := ⟨us[j]'(by omega), List.getElem?_eq_getElem _⟩
       have e0 : ∀ s : Bl W0, s.val.cell? ⟨b, off + j * 5, none⟩ = some (.string om) := fun s => HCELL.out s j _ 0 hx (by omega)
       have HX := Lib.hid hx; clear hx
       have j1 : (j : Int) < (i : Int) := by omega
       have j2 : (j : Int) < (us.length : Int) := by omega
       cases q : (om.toList == nm.toList) with
       | true =>
        have hcs := newName_bad HX.out hlt q
        obtain rfl : E = false := by rw [← HE.out, HP1.out, hcs]; rfl
        clear hcs
        go_wp2
        refine wp_region_bl (by kernel_rfl) (by kernel_rfl) ?_
        repeat (go_big_quiet_step (first | fail))
        refine wpQuiet_nil ?_
        rintro _ ⟨zq, rfl⟩
        go_wp2
        go_ret
        exact ⟨rfl, Below.step HB.out (Bl.prop _)⟩
       | false =>
        go_wp2
        refine wp_region_bl (by kernel_rfl) (by kernel_rfl) ?_
        repeat (go_big_quiet_step (first | fail))
        refine wpQuiet_nil ?_
        rintro _ ⟨zq, rfl⟩
        go_wp2
        go_roundg (i - (j + 1))
        case measure => rw [HGK.out]; omega
        case rel => exact ⟨j + 1, _, rfl, by omega, by go_num, rfl, newName_snoc HX.out hpre.out q⟩
     · obtain rfl : j = i := by omega
       have HNN := Lib.hid hpre.out
       obtain ⟨x0, x1⟩ : (0 : Int) ≤ ba ∧ ba < (us.length : Int) := by
        have h := HP1.out
        unfold rU1 at h
        simp only [Bool.not_eq_true', Bool.or_eq_false_iff, decide_eq_false_iff_not] at h
        omega
       obtain ⟨⟨bn, bk, bb, ⟨bfn, bfd⟩⟩, ha⟩ : ∃ a, us[ba.toNat]? = some a := ⟨us[ba.toNat]'(by omega), List.getElem?_eq_getElem _⟩
       have g0 : z.val.cell? ⟨b, off + ba.toNat * 5, none⟩ = some (.string bn) := HCELL.out z _ _ 0 ha (by omega)
       have g1 : z.val.cell? ⟨b, off + ba.toNat * 5 + 1, none⟩ = some (.int .i64 bk) := HCELL.out z _ _ 1 ha (by omega)
       have g2 : z.val.cell? ⟨b, off + ba.toNat * 5 + 2, none⟩ = some (.int .i64 bb) := HCELL.out z _ _ 2 ha (by omega)
       have g3 : z.val.cell? ⟨b, off + ba.toNat * 5 + 3, none⟩ = some (.int .i64 bfn) := HCELL.out z _ _ 3 ha (by omega)
       have g4 : z.val.cell? ⟨b, off + ba.toNat * 5 + 4, none⟩ = some (.int .i64 bfd) := HCELL.out z _ _ 4 ha (by omega)
       have hk1 : uKind us ba = bk := by simp [uKind, ha]
       have hk2 : uBase us ba = bb := by simp [uBase, ha]
       have HU3 : Hid (rU3 us j ki ba fn fd = ((bb == ba) && ((bk == ki) && ((!(ba == (j : Int))) || ((fn == 1) && (fd == 1)))))) := by show _ = _; unfold rU3; rw [hk1, hk2]
       clear ha hk1 hk2
       go_upto_region 10 with (fail)
       generalize hWa : World.alloc _ _ = Wa
       obtain ⟨hba, hxa⟩ := bx1' hWa
       clear hWa
       obtain ⟨d0, d1, d2, d3, d4⟩ := kc5 hxa
       obtain ⟨za, hza⟩ : ∃ za : Bl W0, za.val = Wa := ⟨⟨Wa, Below.step z.prop hba⟩, rfl⟩
       replace d0 := d0 ⟨Wa, Below.refl _ _⟩
       replace d1 := d1 ⟨Wa, Below.refl _ _⟩
       replace d2 := d2 ⟨Wa, Below.refl _ _⟩
       replace d3 := d3 ⟨Wa, Below.refl _ _⟩
       replace d4 := d4 ⟨Wa, Below.refl _ _⟩
       simp only at d0 d1 d2 d3 d4
       clear g0 g1 g2 g3 g4
       subst hza
       clear hba hxa
       obtain ⟨b3, HP3, hE⟩ : ∃ b, Hid (((bb == ba) && ((bk == ki) && ((!(ba == (j : Int))) || ((fn == 1) && (fd == 1))))) = b) ∧ cond ((bb == ba) && ((bk == ki) && ((!(ba == (j : Int))) || ((fn == 1) && (fd == 1))))) true false = b := ⟨_, rfl, (cd_self _).symm⟩
       simp only [cds] at hE
       repeat' (first | (replace hE := cd_t hE (by assumption)) | (replace hE := cd_f hE (by assumption)) | (replace hE := cd_eq hE; rcases hE with ⟨q, q', hE⟩ | ⟨q, q', hE⟩) | (replace hE := cd_any hE; rcases hE with ⟨q, hE⟩ | ⟨q, hE⟩) | fail)
       all_goals first
        | focus
         obtain rfl : b3 = false := hE.symm
         clear hE
         as_aux_lemma =>
          obtain rfl : E = false := by rw [← HE.out, HP1.out, HNN.out, HU3.out, HP3.out]; rfl
          go_wp2_with (first | fail)
          first
           | (go_ret; exact ⟨rfl, Below.step HB.out (Bl.prop _)⟩)
           | (refine wp_region_bl (by kernel_rfl) (by kernel_rfl) ?_; repeat (go_big_quiet_step (first | fail)); refine wpQuiet_nil ?_; rintro _ ⟨zq, rfl⟩; go_wp2_with (first | fail); go_ret; exact ⟨rfl, Below.step HB.out (Bl.prop _)⟩)
        | focus
         obtain rfl : b3 = true := hE.symm
         clear hE
         as_aux_lemma =>
          obtain rfl : E = true := by rw [← HE.out, HP1.out, HNN.out, HU3.out, HP3.out]; rfl
          go_wp2_with (first | fail)
          first
           | (go_ret; exact ⟨rfl, Below.step HB.out (Bl.prop _)⟩)
           | (refine wp_region_bl (by kernel_rfl) (by kernel_rfl) ?_; repeat (go_big_quiet_step (first | fail)); refine wpQuiet_nil ?_; rintro _ ⟨zq, rfl⟩; go_wp2_with (first | fail); go_ret; exact ⟨rfl, Below.step HB.out (Bl.prop _)⟩)
set_option maxRecDepth 100000 in
set_option maxHeartbeats 1000000 in
theorem runits_any (A : Option Addr) (c : Nat) (us : List KUnit) (w : World) (hA : At w 5 A us.length c (us.flatMap KUnit.cells)) (hn : us.length ≤ 1000) :
 Calls Tryz.prog 120 #[.slice A us.length c] w (UnitsPost us w) := by
 have HA := Lib.hid hA; clear hA
 generalize hE : okUnits us = E
 have HE := Lib.hid hE; clear hE
 have hP : ∀ n : Int, ∀ b : Bool, b = E → ∀ w', Below w.heap.size w w' → UnitsPost us w (.returned (.tuple #[.int .i64 n, .bool b])) w' := fun n b hb w' hw => ⟨n, by rw [hb, HE.out], hw⟩
 have HP := Lib.hid hP; clear hP
 go_enter Tryz.func120, Tryz.ntmps120
 go_wp2
 go_loopg [4] us.length (fun gk v4 wr => ∃ (j : Nat), gk = us.length - j ∧ j ≤ us.length ∧ v4 = .int .i64 j ∧ Below w.heap.size w wr ∧ Hid (∀ i u, i < j → us[i]? = some u → okUnit us i u = true))
 case atStart => exact ⟨0, rfl, Nat.zero_le _, rfl, Below.refl _ _, fun i u h => by omega⟩
 case round =>
  obtain ⟨j, hgk, hj, rfl, hb, hpre⟩ := hrel
  have HGK := Lib.hid hgk; clear hgk
  by_cases hlt : j < us.length
  · obtain ⟨u, hu⟩ : ∃ u, us[j]? = some u := ⟨us[j], List.getElem?_eq_getElem hlt⟩
    have hc := rright_any A c us j u wr (HA.out.below (by omega) hb) hu hn
    generalize hv : okUnit us j u = vv at hc
    have HV := Lib.hid hv; clear hv
    have HU := Lib.hid hu; clear hu
    have HCC := Lib.hid hc; clear hc
    have HBB := Lib.hid hb; clear hb
    have j1 : (j : Int) < (us.length : Int) := by omega
    cases vv with
    | false =>
     have HF : Hid (false = E) := by show _ = _; rw [← HE.out, okUnits_bad HU.out HV.out]
     go_wp2_with (go_at_call 145; refine HCC.out.mono ?_; rintro e z ⟨rfl, hz⟩)
     go_ret2
     exact HP.out _ _ HF.out _ (Below.step HBB.out hz)
    | true =>
     go_wp2_with (go_at_call 145; refine HCC.out.mono ?_; rintro e z ⟨rfl, hz⟩)
     go_roundg (us.length - (j + 1))
     case measure => rw [HGK.out]; omega
     case rel => exact ⟨j + 1, rfl, by omega, by go_num, Below.step HBB.out hz, fun i u hi hu => by
      by_cases e : i = j
      · subst e
        rw [HU.out] at hu
        injection hu with hu
        subst hu
        exact HV.out
      · exact hpre.out i u (by omega) hu⟩
  · obtain rfl : j = us.length := by omega
    have HF : Hid (true = E) := by
     show _ = _
     rw [← HE.out, okUnits_all (fun i u hu => hpre.out i u (List.getElem?_eq_some_iff.1 hu).1 hu)]
    have HBB := Lib.hid hb; clear hb
    go_wp2
    go_ret2
    exact HP.out _ _ HF.out _ HBB.out
def rC1 (C : KCon) (ki ro ac ne gr af : Int) (fi : Bool) (sl : Nat) : Bool := (!(decide (ki < 1) || (decide (4 < ki) || ((!actnB C ac) || (decide (8 < (sl : Int)) || (decide (af < 1) || (decide (400 < af) || (decide (gr < 0) || (decide (400 < gr) || (decide (ne < 1) || decide (9 < ne))))))))))) && (!(((ki == 4) && (!(ro == -1))) || (((!(ki == 4)) && ((!C.role ro) || C.natural ac)) || (((!(ki == 1)) && ((!(ne == 1)) || (!(gr == 0)))) || (fi && decide (2 < ki))))))
def rC2 (C : KCon) (pa re : Int) : Bool := !(((!(pa == -1)) || (!(re == -1))) && ((!C.natural pa) || ((!C.natural re) || (pa == re))))
def rC3 (C : KCon) (ki un vn vd tg : Int) : Bool := cond (un == -1) (KRatio.zero ⟨vn, vd⟩ && (tg == -1)) (decide (ki ≤ 2) && (decide (0 ≤ un) && (decide (un < (C.units.length : Int)) && ((C.unitKind un == 2) && (KRatio.plus ⟨vn, vd⟩ && C.role tg)))))
def rClause (C : KCon) (i : Nat) (k : KClause) : Bool := rC1 C k.kind k.role k.act k.need k.grace k.after k.final k.start.length && (condsOk C i k.start && (rC2 C k.pause k.resume && rC3 C k.kind k.unit k.value.num k.value.den k.tgt))
theorem rC1_no {C : KCon} {ki ro ac ne gr af : Int} {fi : Bool} {start : List KCond} (h1 : (decide (ki < 1) || (decide (4 < ki) || ((!actnB C ac) || (decide (8 < (start.length : Int)) || (decide (af < 1) || (decide (400 < af) || (decide (gr < 0) || (decide (400 < gr) || (decide (ne < 1) || decide (9 < ne)))))))))) = false) (h2 : (((ki == 4) && (!(ro == -1))) || (((!(ki == 4)) && ((!C.role ro) || C.natural ac)) || (((!(ki == 1)) && ((!(ne == 1)) || (!(gr == 0)))) || (fi && decide (2 < ki))))) = false) : rC1 C ki ro ac ne gr af fi start.length = true := by unfold rC1; rw [h1, h2]; rfl
theorem rC1_bad1 {C : KCon} {ki ro ac ne gr af : Int} {fi : Bool} {start : List KCond} (h1 : (decide (ki < 1) || (decide (4 < ki) || ((!actnB C ac) || (decide (8 < (start.length : Int)) || (decide (af < 1) || (decide (400 < af) || (decide (gr < 0) || (decide (400 < gr) || (decide (ne < 1) || decide (9 < ne)))))))))) = true) : rC1 C ki ro ac ne gr af fi start.length = false := by unfold rC1; rw [h1]; rfl
theorem rC1_bad2 {C : KCon} {ki ro ac ne gr af : Int} {fi : Bool} {start : List KCond} (h2 : (((ki == 4) && (!(ro == -1))) || (((!(ki == 4)) && ((!C.role ro) || C.natural ac)) || (((!(ki == 1)) && ((!(ne == 1)) || (!(gr == 0)))) || (fi && decide (2 < ki))))) = true) : rC1 C ki ro ac ne gr af fi start.length = false := by unfold rC1; rw [h2, Bool.not_true, Bool.and_false]
theorem rC2_no {C : KCon} {pa re : Int} (h : (((!(pa == -1)) || (!(re == -1))) && ((!C.natural pa) || ((!C.natural re) || (pa == re)))) = false) : rC2 C pa re = true := by unfold rC2; rw [h]; rfl
theorem rC2_bad {C : KCon} {pa re : Int} (h : (((!(pa == -1)) || (!(re == -1))) && ((!C.natural pa) || ((!C.natural re) || (pa == re)))) = true) : rC2 C pa re = false := by unfold rC2; rw [h]; rfl
theorem rC1_eq (C : KCon) (ki ro ac ne gr af : Int) (fi : Bool) (sl : Nat) : rC1 C ki ro ac ne gr af fi sl = okCl1 C ki ro ac ne gr af fi sl := by
 unfold rC1 okCl1 okKindB actnB
 rw [Bool.eq_iff_iff]
 cases C.role ro <;> cases C.natural ac <;> cases fi
 all_goals
  by_cases e1 : ki = 1
  · subst e1; simp <;> omega
  · by_cases e2 : ki = 2
    · subst e2; simp <;> omega
    · by_cases e3 : ki = 3
      · subst e3; simp <;> omega
      · by_cases e4 : ki = 4
        · subst e4; simp <;> omega
        · simp [e1, e2, e3, e4] <;> omega
theorem rC2_eq (C : KCon) (pa re : Int) : rC2 C pa re = okCl2 C pa re := by
 unfold rC2 okCl2
 cases pa == -1 <;> cases re == -1 <;> cases C.natural pa <;> cases C.natural re <;> cases pa == re <;> rfl
theorem rC3_eq (C : KCon) (ki un vn vd tg : Int) (h : 1 ≤ ki) : rC3 C ki un vn vd tg = okCl3 C ki un vn vd tg := by
 unfold rC3 okCl3
 rw [show decide (ki ≤ 2) = ((ki == 1) || (ki == 2)) by rw [Bool.eq_iff_iff]; simp; omega]
theorem rClause_eq (C : KCon) (i : Nat) (k : KClause) : rClause C i k = C.okClause i k := by
 unfold rClause KCon.okClause
 rw [rC1_eq, rC2_eq]
 cases h : okCl1 C k.kind k.role k.act k.need k.grace k.after k.final k.start.length with
 | false => rfl
 | true =>
  rw [rC3_eq]
  rw [← rC1_eq] at h
  unfold rC1 at h
  simp only [Bool.and_eq_true, Bool.not_eq_true', Bool.or_eq_false_iff, decide_eq_false_iff_not] at h
  omega
set_option maxRecDepth 100000 in
set_option maxHeartbeats 8000000 in
theorem rclause_any (v : CV) (C : KCon) (i : Nat) (k : KClause) (w : World) (hC : ConAt w v C) (hk : C.clauses[i]? = some k) : Calls Tryz.prog 108 #[v.val C, .int .i64 i] w (RetB (.bool (C.okClause i k)) w) := by
 rw [← rClause_eq]
 have hil : i < C.clauses.length := (List.getElem?_eq_some_iff.1 hk).1
 obtain ⟨b, off, ⟨stA, stc⟩, hA0, hb, hcell, hst⟩ := hC.clause hk
 obtain ⟨⟨vhA, vhc⟩, ⟨vuA, vuc⟩, ⟨vaA, vac⟩, ⟨vkA, vkc⟩, ⟨voA, voc⟩⟩ := v
 simp only at hA0
 subst hA0
 obtain ⟨ki, ro, ac, ne, start, af, gr, bu, fi, pa, re, ⟨vn, vd⟩, un, tg, wa⟩ := k
 have hsx : start.length ≤ 9223372036854775807 := by have h1 := hst.2.2.1; have h2 := hst.2.2.2; unfold maxLen at h2; simp only at h1 h2 ⊢; omega
 generalize hE : rClause C i ⟨ki, ro, ac, ne, start, af, gr, bu, fi, pa, re, ⟨vn, vd⟩, un, tg, wa⟩ = E
 simp only [rClause] at hE
 have HE := Lib.hid hE; clear hE
 have HST := Lib.hid hst; clear hst
 have HC := Lib.hid hC; clear hC
 clear hk
 obtain ⟨c0, c1, c2, c3, c4, c5, c6, c7, c8, c9, c10, c11, c12, c13, c14, c15⟩ := rw16 (hcell w (Below.refl _ _)) rfl
 clear hcell
 have i0 : (0 : Int) ≤ (i : Int) := by omega
 have i1 : (i : Int) < (C.clauses.length : Int) := by omega
 simp only [CV.val, CV.cells]
 go_enter Tryz.func108, Tryz.ntmps108
 go_upto_region 2 with (fail)
 generalize hW0 : World.alloc _ _ = W0
 obtain ⟨HB, hh0, hh1⟩ := bx2 hW0; clear hW0
 obtain ⟨k0_0, k0_1, k0_2, k0_3, k0_4, k0_5, k0_6⟩ := kc7 hh0
 clear hh0
 obtain ⟨k1_0, k1_1, k1_2, k1_3, k1_4, k1_5, k1_6, k1_7, k1_8, k1_9, k1_10, k1_11, k1_12, k1_13, k1_14, k1_15⟩ := kc16 hh1
 clear hh1
 change Code.wp _ _ _ _ (Bl.val (⟨W0, Below.refl _ _⟩ : Bl W0))
 generalize (⟨W0, Below.refl _ _⟩ : Bl W0) = s0
 clear c0 c1 c2 c3 c4 c5 c6 c7 c8 c9 c10 c11 c12 c13 c14 c15
 have HAN := Lib.hid (fun (x : Int) (W : World) => lit (ractn_any (⟨⟨vhA, vhc⟩, ⟨vuA, vuc⟩, ⟨vaA, vac⟩, ⟨some ⟨b, off, none⟩, vkc⟩, ⟨voA, voc⟩⟩ : CV) C x W) (show _ = actnB C x from rfl))
 simp only [CV.val, CV.cells] at HAN
 have HRO := Lib.hid (fun (x : Int) (W : World) => rrole_any (⟨⟨vhA, vhc⟩, ⟨vuA, vuc⟩, ⟨vaA, vac⟩, ⟨some ⟨b, off, none⟩, vkc⟩, ⟨voA, voc⟩⟩ : CV) C x W)
 simp only [CV.val, CV.cells] at HRO
 have HNA := Lib.hid (fun (x : Int) (z : Bl W0) => rnatural_any (⟨⟨vhA, vhc⟩, ⟨vuA, vuc⟩, ⟨vaA, vac⟩, ⟨some ⟨b, off, none⟩, vkc⟩, ⟨voA, voc⟩⟩ : CV) C x z.val (HC.out.below (Below.step HB.out z.prop)))
 simp only [CV.val, CV.cells] at HNA
 have HUN : Hid (0 ≤ un → un < (C.units.length : Int) → ∃ ub uo, vuA = some ⟨ub, uo, none⟩ ∧ ∀ z : Bl W0, z.val.cell? ⟨ub, uo + un.toNat * 5 + 1, none⟩ = some (.int .i64 (C.unitKind un))) := fun h0 h1 => by
  obtain ⟨ub, uo, hUA, hub, huc⟩ := HC.out.units.1.form (by omega) (by omega)
  simp only at hUA
  obtain ⟨a, ha⟩ : ∃ a, C.units[un.toNat]? = some a := ⟨C.units[un.toNat]'(by omega), List.getElem?_eq_getElem _⟩
  refine ⟨ub, uo, hUA, fun z => ?_⟩
  rw [(Below.step HB.out z.prop).cell (p := ⟨ub, uo + un.toNat * 5 + 1, none⟩) hub, Nat.add_assoc, huc _ (by omega), get_flat KUnit.cells 5 (fun _ => rfl) C.units un.toNat 1 a ha (by omega)]
  unfold KCon.unitKind
  rw [if_pos h0, ha]
  rfl
 obtain ⟨b1, HP1⟩ : ∃ b, Hid ((decide (ki < 1) || (decide (4 < ki) || ((!actnB C ac) || (decide (8 < (start.length : Int)) || (decide (af < 1) || (decide (400 < af) || (decide (gr < 0) || (decide (400 < gr) || (decide (ne < 1) || decide (9 < ne)))))))))) = b) := ⟨_, rfl⟩
 go_upto_region 2 with (fail)
 go_cut [63] (fun c wx => c = .bool b1 ∧ ∃ z : Bl W0, wx = z.val)
 case first =>
  have hE := (cd_self (decide (ki < 1) || (decide (4 < ki) || ((!actnB C ac) || (decide (8 < (start.length : Int)) || (decide (af < 1) || (decide (400 < af) || (decide (gr < 0) || (decide (400 < gr) || (decide (ne < 1) || decide (9 < ne))))))))))).symm.trans HP1.out
  simp only [cds] at hE
  repeat' (first | (replace hE := cd_t hE (by assumption)) | (replace hE := cd_f hE (by assumption)) | (replace hE := cd_eq hE; rcases hE with ⟨q, q', hE⟩ | ⟨q, q', hE⟩) | (replace hE := cd_any hE; rcases hE with ⟨q, hE⟩ | ⟨q, hE⟩) | fail)
  all_goals
   subst hE
   as_aux_lemma =>
    go_wp2_with (first | (go_at_call 122; refine (lit (HAN.out _ _) (by assumption)).mono ?_; rintro e z ⟨rfl, hz⟩; obtain ⟨z, rfl⟩ := Bl.on hz; clear hz) | (go_at_call 122; refine (HAN.out _ _).mono ?_; rintro e z ⟨rfl, hz⟩; obtain ⟨z, rfl⟩ := Bl.on hz; clear hz) | (go_at_call 123; refine (lit (HRO.out _ _) (by assumption)).mono ?_; rintro e z ⟨rfl, hz⟩; obtain ⟨z, rfl⟩ := Bl.on hz; clear hz) | (go_at_call 123; refine (HRO.out _ _).mono ?_; rintro e z ⟨rfl, hz⟩; obtain ⟨z, rfl⟩ := Bl.on hz; clear hz) | (go_at_call 124; refine (lit (HNA.out _ _) (by assumption)).mono ?_; rintro e z ⟨rfl, hz⟩; obtain ⟨z, rfl⟩ := Bl.on hz; clear hz) | (go_at_call 124; refine (HNA.out _ _).mono ?_; rintro e z ⟨rfl, hz⟩; obtain ⟨z, rfl⟩ := Bl.on hz; clear hz) | (go_at_call 125; refine (lit (rzero_any _ _ _) (by assumption)).mono ?_; rintro e z ⟨rfl, hz⟩; obtain ⟨z, rfl⟩ := Bl.on hz; clear hz) | (go_at_call 125; refine (rzero_any _ _ _).mono ?_; rintro e z ⟨rfl, hz⟩; obtain ⟨z, rfl⟩ := Bl.on hz; clear hz) | (go_at_call 126; refine (lit (rplus_any _ _ _) (by assumption)).mono ?_; rintro e z ⟨rfl, hz⟩; obtain ⟨z, rfl⟩ := Bl.on hz; clear hz) | (go_at_call 126; refine (rplus_any _ _ _).mono ?_; rintro e z ⟨rfl, hz⟩; obtain ⟨z, rfl⟩ := Bl.on hz; clear hz))
    go_meet
    exact ⟨rfl, _, rfl⟩
 case rest =>
  obtain ⟨rfl, z1, rfl⟩ := hcut
  cases b1 with
  | false =>
   as_aux_lemma =>
    have HQ1 := HP1
    clear HP1
    obtain ⟨b2, HP2⟩ : ∃ b, Hid ((((ki == 4) && (!(ro == -1))) || (((!(ki == 4)) && ((!C.role ro) || C.natural ac)) || (((!(ki == 1)) && ((!(ne == 1)) || (!(gr == 0)))) || (fi && decide (2 < ki))))) = b) := ⟨_, rfl⟩
    go_upto_region 4 with (fail)
    go_cut [113] (fun c wx => c = .bool b2 ∧ ∃ z : Bl W0, wx = z.val)
    case first =>
     have hE := (cd_self (((ki == 4) && (!(ro == -1))) || (((!(ki == 4)) && ((!C.role ro) || C.natural ac)) || (((!(ki == 1)) && ((!(ne == 1)) || (!(gr == 0)))) || (fi && decide (2 < ki)))))).symm.trans HP2.out
     simp only [cds] at hE
     repeat' (first | (replace hE := cd_t hE (by assumption)) | (replace hE := cd_f hE (by assumption)) | (replace hE := cd_eq hE; rcases hE with ⟨q, q', hE⟩ | ⟨q, q', hE⟩) | (replace hE := cd_any hE; rcases hE with ⟨q, hE⟩ | ⟨q, hE⟩) | fail)
     all_goals
      subst hE
      as_aux_lemma =>
       go_wp2_with (first | (go_at_call 122; refine (lit (HAN.out _ _) (by assumption)).mono ?_; rintro e z ⟨rfl, hz⟩; obtain ⟨z, rfl⟩ := Bl.on hz; clear hz) | (go_at_call 122; refine (HAN.out _ _).mono ?_; rintro e z ⟨rfl, hz⟩; obtain ⟨z, rfl⟩ := Bl.on hz; clear hz) | (go_at_call 123; refine (lit (HRO.out _ _) (by assumption)).mono ?_; rintro e z ⟨rfl, hz⟩; obtain ⟨z, rfl⟩ := Bl.on hz; clear hz) | (go_at_call 123; refine (HRO.out _ _).mono ?_; rintro e z ⟨rfl, hz⟩; obtain ⟨z, rfl⟩ := Bl.on hz; clear hz) | (go_at_call 124; refine (lit (HNA.out _ _) (by assumption)).mono ?_; rintro e z ⟨rfl, hz⟩; obtain ⟨z, rfl⟩ := Bl.on hz; clear hz) | (go_at_call 124; refine (HNA.out _ _).mono ?_; rintro e z ⟨rfl, hz⟩; obtain ⟨z, rfl⟩ := Bl.on hz; clear hz) | (go_at_call 125; refine (lit (rzero_any _ _ _) (by assumption)).mono ?_; rintro e z ⟨rfl, hz⟩; obtain ⟨z, rfl⟩ := Bl.on hz; clear hz) | (go_at_call 125; refine (rzero_any _ _ _).mono ?_; rintro e z ⟨rfl, hz⟩; obtain ⟨z, rfl⟩ := Bl.on hz; clear hz) | (go_at_call 126; refine (lit (rplus_any _ _ _) (by assumption)).mono ?_; rintro e z ⟨rfl, hz⟩; obtain ⟨z, rfl⟩ := Bl.on hz; clear hz) | (go_at_call 126; refine (rplus_any _ _ _).mono ?_; rintro e z ⟨rfl, hz⟩; obtain ⟨z, rfl⟩ := Bl.on hz; clear hz))
       go_meet
       exact ⟨rfl, _, rfl⟩
    case rest =>
     obtain ⟨rfl, z2, rfl⟩ := hcut
     cases b2 with
     | false =>
      as_aux_lemma =>
       have HQ2 := HP2
       clear HP2
       go_wp2
       go_loopg [6] start.length (fun gk v6 wr => ∃ (j : Nat) (z : Bl W0), gk = start.length - j ∧ j ≤ start.length ∧ v6 = .int .i64 j ∧ wr = z.val ∧ Hid (condsOk C i (start.take j) = true))
       case atStart => exact ⟨0, _, rfl, Nat.zero_le _, rfl, rfl, rfl⟩
       case round =>
        obtain ⟨j, z, hgk, hj, rfl, rfl, hpre⟩ := hrel
        have HGK := Lib.hid hgk; clear hgk
        by_cases hlt : j < start.length
        · obtain ⟨⟨cl, is⟩, hx⟩ : ∃ x, start[j]? = some x := ⟨start[j], List.getElem?_eq_getElem hlt⟩
          obtain ⟨b2, off2, hA2, hb2, hc2⟩ := (HST.out.below (by omega) (Below.step HB.out z.prop)).1.form (by omega) (by omega)
          try simp only at hA2
          subst hA2
          have e0 : z.val.cell? ⟨b2, off2 + j * 2, none⟩ = some (.int .i64 cl) := by rw [hc2 _ (by omega)]; exact get_flat KCond.cells 2 (fun _ => rfl) start j 0 _ hx (by omega)
          have e1 : z.val.cell? ⟨b2, off2 + j * 2 + 1, none⟩ = some (.int .i64 is) := by rw [Nat.add_assoc, hc2 _ (by omega)]; exact get_flat KCond.cells 2 (fun _ => rfl) start j 1 _ hx (by omega)
          clear hc2
          have HX := Lib.hid hx; clear hx
          have j1 : (j : Int) < (start.length : Int) := by omega
          go_upto_region 10 with (fail)
          generalize hWa : World.alloc _ _ = Wa
          obtain ⟨hba, hxa⟩ := bx1' hWa
          clear hWa
          obtain ⟨d0, d1⟩ := kc2 hxa
          obtain ⟨za, hza⟩ : ∃ za : Bl W0, za.val = Wa := ⟨⟨Wa, Below.step z.prop hba⟩, rfl⟩
          replace d0 := d0 ⟨Wa, Below.refl _ _⟩
          replace d1 := d1 ⟨Wa, Below.refl _ _⟩
          simp only at d0 d1
          subst hza
          clear hba hxa e0 e1
          obtain ⟨b5, HP5, hE⟩ : ∃ b, Hid ((condOkB C i cl is) = b) ∧ cond (condOkB C i cl is) true false = b := ⟨_, rfl, (cd_self _).symm⟩
          simp only [condOkB, cds] at hE
          repeat' (first | (replace hE := cd_t hE (by assumption)) | (replace hE := cd_f hE (by assumption)) | (replace hE := cd_eq hE; rcases hE with ⟨q, q', hE⟩ | ⟨q, q', hE⟩) | (replace hE := cd_any hE; rcases hE with ⟨q, hE⟩ | ⟨q, hE⟩) | fail)
          all_goals first
           | focus
            obtain rfl : b5 = false := hE.symm
            clear hE
            as_aux_lemma =>
             obtain rfl : E = false := by rw [← HE.out, rC1_no HQ1.out HQ2.out, condsOk_bad HX.out HP5.out]; rfl
             go_wp2_with (first | fail)
             first
              | (go_ret; exact ⟨rfl, Below.step HB.out (Bl.prop _)⟩)
              | (refine wp_region_bl (by kernel_rfl) (by kernel_rfl) ?_; repeat (go_big_quiet_step (first | fail)); refine wpQuiet_nil ?_; rintro _ ⟨zq, rfl⟩; go_wp2_with (first | fail); go_ret; exact ⟨rfl, Below.step HB.out (Bl.prop _)⟩)
           | focus
            obtain rfl : b5 = true := hE.symm
            clear hE
            as_aux_lemma =>
             go_wp2
             go_roundg (start.length - (j + 1))
             case measure => rw [HGK.out]; omega
             case rel => exact ⟨j + 1, _, rfl, by omega, by go_num, rfl, condsOk_snoc HX.out hpre.out HP5.out⟩
        · obtain rfl : j = start.length := by omega
          have HN : Hid (condsOk C i start = true) := by have h := hpre.out; rwa [List.take_of_length_le (Nat.le_refl _)] at h
          clear hpre HGK
          obtain ⟨b4, HP4⟩ : ∃ b, Hid ((((!(pa == -1)) || (!(re == -1))) && ((!C.natural pa) || ((!C.natural re) || (pa == re)))) = b) := ⟨_, rfl⟩
          go_upto_region 12 with (fail)
          go_cut [181] (fun c wx => c = .bool b4 ∧ ∃ z : Bl W0, wx = z.val)
          case first =>
           have hE := (cd_self (((!(pa == -1)) || (!(re == -1))) && ((!C.natural pa) || ((!C.natural re) || (pa == re))))).symm.trans HP4.out
           simp only [cds] at hE
           repeat' (first | (replace hE := cd_t hE (by assumption)) | (replace hE := cd_f hE (by assumption)) | (replace hE := cd_eq hE; rcases hE with ⟨q, q', hE⟩ | ⟨q, q', hE⟩) | (replace hE := cd_any hE; rcases hE with ⟨q, hE⟩ | ⟨q, hE⟩) | fail)
           all_goals
            subst hE
            as_aux_lemma =>
             go_wp2_with (first | (go_at_call 122; refine (lit (HAN.out _ _) (by assumption)).mono ?_; rintro e z ⟨rfl, hz⟩; obtain ⟨z, rfl⟩ := Bl.on hz; clear hz) | (go_at_call 122; refine (HAN.out _ _).mono ?_; rintro e z ⟨rfl, hz⟩; obtain ⟨z, rfl⟩ := Bl.on hz; clear hz) | (go_at_call 123; refine (lit (HRO.out _ _) (by assumption)).mono ?_; rintro e z ⟨rfl, hz⟩; obtain ⟨z, rfl⟩ := Bl.on hz; clear hz) | (go_at_call 123; refine (HRO.out _ _).mono ?_; rintro e z ⟨rfl, hz⟩; obtain ⟨z, rfl⟩ := Bl.on hz; clear hz) | (go_at_call 124; refine (lit (HNA.out _ _) (by assumption)).mono ?_; rintro e z ⟨rfl, hz⟩; obtain ⟨z, rfl⟩ := Bl.on hz; clear hz) | (go_at_call 124; refine (HNA.out _ _).mono ?_; rintro e z ⟨rfl, hz⟩; obtain ⟨z, rfl⟩ := Bl.on hz; clear hz) | (go_at_call 125; refine (lit (rzero_any _ _ _) (by assumption)).mono ?_; rintro e z ⟨rfl, hz⟩; obtain ⟨z, rfl⟩ := Bl.on hz; clear hz) | (go_at_call 125; refine (rzero_any _ _ _).mono ?_; rintro e z ⟨rfl, hz⟩; obtain ⟨z, rfl⟩ := Bl.on hz; clear hz) | (go_at_call 126; refine (lit (rplus_any _ _ _) (by assumption)).mono ?_; rintro e z ⟨rfl, hz⟩; obtain ⟨z, rfl⟩ := Bl.on hz; clear hz) | (go_at_call 126; refine (rplus_any _ _ _).mono ?_; rintro e z ⟨rfl, hz⟩; obtain ⟨z, rfl⟩ := Bl.on hz; clear hz))
             go_meet
             exact ⟨rfl, _, rfl⟩
          case rest =>
           obtain ⟨rfl, z4, rfl⟩ := hcut
           cases b4 with
           | false =>
            as_aux_lemma =>
             have HQ4 := HP4
             clear HP4
             obtain ⟨b3, HP3, hE⟩ : ∃ b, Hid ((rC3 C ki un vn vd tg) = b) ∧ cond (rC3 C ki un vn vd tg) true false = b := ⟨_, rfl, (cd_self _).symm⟩
             simp only [rC3, cds] at hE
             repeat' (first | (replace hE := cd_t hE (by assumption)) | (replace hE := cd_f hE (by assumption)) | (replace hE := cd_eq hE; rcases hE with ⟨q, q', hE⟩ | ⟨q, q', hE⟩) | (replace hE := cd_any hE; rcases hE with ⟨q, hE⟩ | ⟨q, hE⟩) | fail)
             all_goals first
              | focus
               obtain rfl : b3 = false := hE.symm
               clear hE
               as_aux_lemma =>
                obtain rfl : E = false := by rw [← HE.out, rC1_no HQ1.out HQ2.out, HN.out, rC2_no HQ4.out, HP3.out]; rfl
                try (have hu0 := of_decide_eq_true (by assumption : decide (0 ≤ un) = true); have hu1 := of_decide_eq_true (by assumption : decide (un < (C.units.length : Int)) = true); have hux := HUN.out hu0 hu1; obtain ⟨ub, uo, hUA, cu⟩ := hux; subst hUA)
                go_wp2_with (first | (go_at_call 122; refine (lit (HAN.out _ _) (by assumption)).mono ?_; rintro e z ⟨rfl, hz⟩; obtain ⟨z, rfl⟩ := Bl.on hz; clear hz) | (go_at_call 122; refine (HAN.out _ _).mono ?_; rintro e z ⟨rfl, hz⟩; obtain ⟨z, rfl⟩ := Bl.on hz; clear hz) | (go_at_call 123; refine (lit (HRO.out _ _) (by assumption)).mono ?_; rintro e z ⟨rfl, hz⟩; obtain ⟨z, rfl⟩ := Bl.on hz; clear hz) | (go_at_call 123; refine (HRO.out _ _).mono ?_; rintro e z ⟨rfl, hz⟩; obtain ⟨z, rfl⟩ := Bl.on hz; clear hz) | (go_at_call 124; refine (lit (HNA.out _ _) (by assumption)).mono ?_; rintro e z ⟨rfl, hz⟩; obtain ⟨z, rfl⟩ := Bl.on hz; clear hz) | (go_at_call 124; refine (HNA.out _ _).mono ?_; rintro e z ⟨rfl, hz⟩; obtain ⟨z, rfl⟩ := Bl.on hz; clear hz) | (go_at_call 125; refine (lit (rzero_any _ _ _) (by assumption)).mono ?_; rintro e z ⟨rfl, hz⟩; obtain ⟨z, rfl⟩ := Bl.on hz; clear hz) | (go_at_call 125; refine (rzero_any _ _ _).mono ?_; rintro e z ⟨rfl, hz⟩; obtain ⟨z, rfl⟩ := Bl.on hz; clear hz) | (go_at_call 126; refine (lit (rplus_any _ _ _) (by assumption)).mono ?_; rintro e z ⟨rfl, hz⟩; obtain ⟨z, rfl⟩ := Bl.on hz; clear hz) | (go_at_call 126; refine (rplus_any _ _ _).mono ?_; rintro e z ⟨rfl, hz⟩; obtain ⟨z, rfl⟩ := Bl.on hz; clear hz))
                first
                 | (go_ret; exact ⟨rfl, Below.step HB.out (Bl.prop _)⟩)
                 | (refine wp_region_bl (by kernel_rfl) (by kernel_rfl) ?_; repeat (go_big_quiet_step (first | (go_at_call 122; exact Calls.bl_of (lit (HAN.out _ _) (by assumption))) | (go_at_call 122; exact Calls.bl_of (HAN.out _ _)) | (go_at_call 123; exact Calls.bl_of (lit (HRO.out _ _) (by assumption))) | (go_at_call 123; exact Calls.bl_of (HRO.out _ _)) | (go_at_call 124; exact Calls.bl_of (lit (HNA.out _ _) (by assumption))) | (go_at_call 124; exact Calls.bl_of (HNA.out _ _)) | (go_at_call 125; exact Calls.bl_of (lit (rzero_any _ _ _) (by assumption))) | (go_at_call 125; exact Calls.bl_of (rzero_any _ _ _)) | (go_at_call 126; exact Calls.bl_of (lit (rplus_any _ _ _) (by assumption))) | (go_at_call 126; exact Calls.bl_of (rplus_any _ _ _)))); refine wpQuiet_nil ?_; rintro _ ⟨zq, rfl⟩; go_wp2_with (first | (go_at_call 122; refine (lit (HAN.out _ _) (by assumption)).mono ?_; rintro e z ⟨rfl, hz⟩; obtain ⟨z, rfl⟩ := Bl.on hz; clear hz) | (go_at_call 122; refine (HAN.out _ _).mono ?_; rintro e z ⟨rfl, hz⟩; obtain ⟨z, rfl⟩ := Bl.on hz; clear hz) | (go_at_call 123; refine (lit (HRO.out _ _) (by assumption)).mono ?_; rintro e z ⟨rfl, hz⟩; obtain ⟨z, rfl⟩ := Bl.on hz; clear hz) | (go_at_call 123; refine (HRO.out _ _).mono ?_; rintro e z ⟨rfl, hz⟩; obtain ⟨z, rfl⟩ := Bl.on hz; clear hz) | (go_at_call 124; refine (lit (HNA.out _ _) (by assumption)).mono ?_; rintro e z ⟨rfl, hz⟩; obtain ⟨z, rfl⟩ := Bl.on hz; clear hz) | (go_at_call 124; refine (HNA.out _ _).mono ?_; rintro e z ⟨rfl, hz⟩; obtain ⟨z, rfl⟩ := Bl.on hz; clear hz) | (go_at_call 125; refine (lit (rzero_any _ _ _) (by assumption)).mono ?_; rintro e z ⟨rfl, hz⟩; obtain ⟨z, rfl⟩ := Bl.on hz; clear hz) | (go_at_call 125; refine (rzero_any _ _ _).mono ?_; rintro e z ⟨rfl, hz⟩; obtain ⟨z, rfl⟩ := Bl.on hz; clear hz) | (go_at_call 126; refine (lit (rplus_any _ _ _) (by assumption)).mono ?_; rintro e z ⟨rfl, hz⟩; obtain ⟨z, rfl⟩ := Bl.on hz; clear hz) | (go_at_call 126; refine (rplus_any _ _ _).mono ?_; rintro e z ⟨rfl, hz⟩; obtain ⟨z, rfl⟩ := Bl.on hz; clear hz)); go_ret; exact ⟨rfl, Below.step HB.out (Bl.prop _)⟩)
              | focus
               obtain rfl : b3 = true := hE.symm
               clear hE
               as_aux_lemma =>
                obtain rfl : E = true := by rw [← HE.out, rC1_no HQ1.out HQ2.out, HN.out, rC2_no HQ4.out, HP3.out]; rfl
                try (have hu0 := of_decide_eq_true (by assumption : decide (0 ≤ un) = true); have hu1 := of_decide_eq_true (by assumption : decide (un < (C.units.length : Int)) = true); have hux := HUN.out hu0 hu1; obtain ⟨ub, uo, hUA, cu⟩ := hux; subst hUA)
                go_wp2_with (first | (go_at_call 122; refine (lit (HAN.out _ _) (by assumption)).mono ?_; rintro e z ⟨rfl, hz⟩; obtain ⟨z, rfl⟩ := Bl.on hz; clear hz) | (go_at_call 122; refine (HAN.out _ _).mono ?_; rintro e z ⟨rfl, hz⟩; obtain ⟨z, rfl⟩ := Bl.on hz; clear hz) | (go_at_call 123; refine (lit (HRO.out _ _) (by assumption)).mono ?_; rintro e z ⟨rfl, hz⟩; obtain ⟨z, rfl⟩ := Bl.on hz; clear hz) | (go_at_call 123; refine (HRO.out _ _).mono ?_; rintro e z ⟨rfl, hz⟩; obtain ⟨z, rfl⟩ := Bl.on hz; clear hz) | (go_at_call 124; refine (lit (HNA.out _ _) (by assumption)).mono ?_; rintro e z ⟨rfl, hz⟩; obtain ⟨z, rfl⟩ := Bl.on hz; clear hz) | (go_at_call 124; refine (HNA.out _ _).mono ?_; rintro e z ⟨rfl, hz⟩; obtain ⟨z, rfl⟩ := Bl.on hz; clear hz) | (go_at_call 125; refine (lit (rzero_any _ _ _) (by assumption)).mono ?_; rintro e z ⟨rfl, hz⟩; obtain ⟨z, rfl⟩ := Bl.on hz; clear hz) | (go_at_call 125; refine (rzero_any _ _ _).mono ?_; rintro e z ⟨rfl, hz⟩; obtain ⟨z, rfl⟩ := Bl.on hz; clear hz) | (go_at_call 126; refine (lit (rplus_any _ _ _) (by assumption)).mono ?_; rintro e z ⟨rfl, hz⟩; obtain ⟨z, rfl⟩ := Bl.on hz; clear hz) | (go_at_call 126; refine (rplus_any _ _ _).mono ?_; rintro e z ⟨rfl, hz⟩; obtain ⟨z, rfl⟩ := Bl.on hz; clear hz))
                first
                 | (go_ret; exact ⟨rfl, Below.step HB.out (Bl.prop _)⟩)
                 | (refine wp_region_bl (by kernel_rfl) (by kernel_rfl) ?_; repeat (go_big_quiet_step (first | (go_at_call 122; exact Calls.bl_of (lit (HAN.out _ _) (by assumption))) | (go_at_call 122; exact Calls.bl_of (HAN.out _ _)) | (go_at_call 123; exact Calls.bl_of (lit (HRO.out _ _) (by assumption))) | (go_at_call 123; exact Calls.bl_of (HRO.out _ _)) | (go_at_call 124; exact Calls.bl_of (lit (HNA.out _ _) (by assumption))) | (go_at_call 124; exact Calls.bl_of (HNA.out _ _)) | (go_at_call 125; exact Calls.bl_of (lit (rzero_any _ _ _) (by assumption))) | (go_at_call 125; exact Calls.bl_of (rzero_any _ _ _)) | (go_at_call 126; exact Calls.bl_of (lit (rplus_any _ _ _) (by assumption))) | (go_at_call 126; exact Calls.bl_of (rplus_any _ _ _)))); refine wpQuiet_nil ?_; rintro _ ⟨zq, rfl⟩; go_wp2_with (first | (go_at_call 122; refine (lit (HAN.out _ _) (by assumption)).mono ?_; rintro e z ⟨rfl, hz⟩; obtain ⟨z, rfl⟩ := Bl.on hz; clear hz) | (go_at_call 122; refine (HAN.out _ _).mono ?_; rintro e z ⟨rfl, hz⟩; obtain ⟨z, rfl⟩ := Bl.on hz; clear hz) | (go_at_call 123; refine (lit (HRO.out _ _) (by assumption)).mono ?_; rintro e z ⟨rfl, hz⟩; obtain ⟨z, rfl⟩ := Bl.on hz; clear hz) | (go_at_call 123; refine (HRO.out _ _).mono ?_; rintro e z ⟨rfl, hz⟩; obtain ⟨z, rfl⟩ := Bl.on hz; clear hz) | (go_at_call 124; refine (lit (HNA.out _ _) (by assumption)).mono ?_; rintro e z ⟨rfl, hz⟩; obtain ⟨z, rfl⟩ := Bl.on hz; clear hz) | (go_at_call 124; refine (HNA.out _ _).mono ?_; rintro e z ⟨rfl, hz⟩; obtain ⟨z, rfl⟩ := Bl.on hz; clear hz) | (go_at_call 125; refine (lit (rzero_any _ _ _) (by assumption)).mono ?_; rintro e z ⟨rfl, hz⟩; obtain ⟨z, rfl⟩ := Bl.on hz; clear hz) | (go_at_call 125; refine (rzero_any _ _ _).mono ?_; rintro e z ⟨rfl, hz⟩; obtain ⟨z, rfl⟩ := Bl.on hz; clear hz) | (go_at_call 126; refine (lit (rplus_any _ _ _) (by assumption)).mono ?_; rintro e z ⟨rfl, hz⟩; obtain ⟨z, rfl⟩ := Bl.on hz; clear hz) | (go_at_call 126; refine (rplus_any _ _ _).mono ?_; rintro e z ⟨rfl, hz⟩; obtain ⟨z, rfl⟩ := Bl.on hz; clear hz)); go_ret; exact ⟨rfl, Below.step HB.out (Bl.prop _)⟩)
           | true =>
            as_aux_lemma =>
             obtain rfl : E = false := by rw [← HE.out, rC1_no HQ1.out HQ2.out, HN.out, rC2_bad HP4.out]; rfl
             go_wp2
             go_ret
             exact ⟨rfl, Below.step HB.out (Bl.prop _)⟩
     | true =>
      as_aux_lemma =>
       obtain rfl : E = false := by rw [← HE.out, rC1_bad2 HP2.out]; rfl
       go_wp2
       go_ret
       exact ⟨rfl, Below.step HB.out (Bl.prop _)⟩
  | true =>
   as_aux_lemma =>
    obtain rfl : E = false := by rw [← HE.out, rC1_bad1 HP1.out]; rfl
    go_wp2
    go_ret
    exact ⟨rfl, Below.step HB.out (Bl.prop _)⟩
end Go.Proofs.YtaielhafpmjkaaaGreatDoor
