/-
  CsV
-/
import Derived.Test.YtahhdjeclbagnaaGreatDoorQ15
import Derived.Test.YtahhdjeclbagnaaGreatDoorQ09
namespace Go.Proofs.YtahhdjeclbagnaaGreatDoor
open Go.RowKit
def okFactK (C : KCon) (x : KFact) : Bool := okFactB C x.ref x.act x.low x.high x.filed
def okFactsL (C : KCon) : Int → List KFact → Bool
 | _, [] => true
 | prev, x :: l => okFactK C x && (decide (prev < x.ref) && okFactsL C x.ref l)
def ordPre : Option KBef → KBef → Bool
 | none, _ => true
 | some a, b => decide (ltB a b)
def okOrdL (F : List KFact) : Option KBef → List KBef → Bool
 | _, [] => true
 | p, b :: l => hasRef F b.ref && (hasRef F b.next && ((!(b.ref == b.next)) && (ordPre p b && okOrdL F (some b) l)))
def okFile (C : KCon) (f : KFile) : Bool := C.valid && ((!(decide (f.house < 0) || decide (C.parties ≤ f.house))) && ((!(decide (4000 < (f.facts.length : Int)) || decide (4000 < (f.orders.length : Int)))) && (okFactsL C 0 f.facts && okOrdL f.facts none f.orders)))
theorem okFactsL_ge {C : KCon} : ∀ {prev : Int} {l : List KFact}, okFactsL C prev l = true → ∀ x ∈ l, prev < x.ref ∧ okFactK C x = true
 | _, [], _, x, hx => by cases hx
 | prev, y :: l, h, x, hx => by
  simp only [okFactsL, Bool.and_eq_true, decide_eq_true_eq] at h
  rcases List.mem_cons.1 hx with e | e
  · subst e; exact ⟨h.2.1, h.1⟩
  · have := okFactsL_ge h.2.2 x e
    exact ⟨by omega, this.2⟩
theorem okFactsL_distinct {C : KCon} : ∀ {prev : Int} {l : List KFact}, okFactsL C prev l = true → Distinct l
 | _, [], _ => List.Pairwise.nil
 | prev, y :: l, h => by
  simp only [okFactsL, Bool.and_eq_true, decide_eq_true_eq] at h
  unfold Distinct
  rw [List.map_cons, List.pairwise_cons]
  refine ⟨fun r hr => ?_, okFactsL_distinct h.2.2⟩
  obtain ⟨x, hx, rfl⟩ := List.mem_map.1 hr
  exact (okFactsL_ge h.2.2 x hx).1
set_option maxRecDepth 100000 in
set_option maxHeartbeats 8000000 in
theorem fileValid_any (v : CV) (C : KCon) (fv : FV) (f : KFile) (w : World) (hC : ConAt w v C) (hF : FileAt w fv f) : Calls Tryz.prog 12 #[v.val C, fv.val f] w (RetB (.bool (okFile C f)) w) := by
 obtain ⟨⟨vhA, vhc⟩, ⟨vuA, vuc⟩, ⟨vaA, vac⟩, ⟨vkA, vkc⟩, ⟨voA, voc⟩⟩ := v
 obtain ⟨⟨fA, fc⟩, ⟨oA, oc⟩⟩ := fv
 obtain ⟨ho, F, O⟩ := f
 obtain ⟨hl1, hl2⟩ := hF.lenF
 obtain ⟨hl3, hl4⟩ := hF.lenO
 simp only at hl1 hl2 hl3 hl4
 have hfx : F.length ≤ 9223372036854775807 := by omega
 have hox : O.length ≤ 9223372036854775807 := by omega
 have HFS : Hid (At w 6 fA F.length fc (factCells F)) := hF.facts
 have HOS : Hid (At w 2 oA O.length oc (befCells O)) := hF.orders
 clear hF
 have HC := Lib.hid hC; clear hC
 simp only [CV.val, CV.cells, FV.val, FV.cells]
 generalize hE : okFile C ⟨ho, F, O⟩ = E
 simp only [okFile] at hE
 have HE := Lib.hid hE; clear hE
 go_enter Tryz.func12, Tryz.ntmps12
 go_upto_region 1 with (fail)
 generalize hW0 : World.alloc _ _ = W0
 obtain ⟨HB, hh0, hh1⟩ := bx2 hW0; clear hW0
 obtain ⟨k0_0, k0_1, k0_2, k0_3, k0_4, k0_5, k0_6⟩ := kc7 hh0
 clear hh0
 obtain ⟨k1_0, k1_1, k1_2⟩ := kc3 hh1
 clear hh1
 change Code.wp _ _ _ _ (Bl.val (⟨W0, Below.refl _ _⟩ : Bl W0))
 generalize (⟨W0, Below.refl _ _⟩ : Bl W0) = s0
 have HCV := Lib.hid (fun z : Bl W0 => conValid_any (⟨⟨vhA, vhc⟩, ⟨vuA, vuc⟩, ⟨vaA, vac⟩, ⟨vkA, vkc⟩, ⟨voA, voc⟩⟩ : CV) C z.val (HC.out.below (Below.step HB.out z.prop)))
 simp only [CV.val, CV.cells] at HCV
 go_wp2_with (go_at_call 28; refine (HCV.out _).mono ?_; rintro e z ⟨n, rfl, hz⟩; obtain ⟨z, rfl⟩ := Bl.on hz; clear hz; refine Hid.out ?_)
 refine Lib.hid ?_
 clear HCV
 cases hv : C.valid with
 | false =>
  obtain ⟨f1, f2⟩ := KCon.errno_no hv
  obtain rfl : E = false := by rw [← HE.out, hv]; rfl
  clear hv
  go_wp2
  go_ret
  exact ⟨rfl, Below.step HB.out (Bl.prop _)⟩
 | true =>
  rw [KCon.errno_yes hv]
  have HV := Lib.hid hv; clear hv
  obtain ⟨b1, HP1, hE⟩ : ∃ b, Hid ((!(decide (ho < 0) || decide (C.parties ≤ ho))) = b) ∧ cond (!(decide (ho < 0) || decide (C.parties ≤ ho))) true false = b := ⟨_, rfl, (cd_self _).symm⟩
  simp only [cds] at hE
  repeat' (first | (replace hE := cd_t hE (by assumption)) | (replace hE := cd_f hE (by assumption)) | (replace hE := cd_eq hE; rcases hE with ⟨q, q', hE⟩ | ⟨q, q', hE⟩) | (replace hE := cd_any hE; rcases hE with ⟨q, hE⟩ | ⟨q, hE⟩) | fail)
  all_goals first
   | focus
    obtain rfl : b1 = false := hE.symm
    clear hE
    as_aux_lemma =>
     obtain rfl : E = false := by rw [← HE.out, HV.out, HP1.out]; rfl
     go_wp2
     go_ret
     exact ⟨rfl, Below.step HB.out (Bl.prop _)⟩
   | focus
    obtain rfl : b1 = true := hE.symm
    clear hE
    as_aux_lemma =>
     have HF1 := HP1
     obtain ⟨b2, HP2, hE⟩ : ∃ b, Hid ((!(decide (4000 < (F.length : Int)) || decide (4000 < (O.length : Int)))) = b) ∧ cond (!(decide (4000 < (F.length : Int)) || decide (4000 < (O.length : Int)))) true false = b := ⟨_, rfl, (cd_self _).symm⟩
     simp only [cds] at hE
     repeat' (first | (replace hE := cd_t hE (by assumption)) | (replace hE := cd_f hE (by assumption)) | (replace hE := cd_eq hE; rcases hE with ⟨q, q', hE⟩ | ⟨q, q', hE⟩) | (replace hE := cd_any hE; rcases hE with ⟨q, hE⟩ | ⟨q, hE⟩) | fail)
     all_goals first
      | focus
       obtain rfl : b2 = false := hE.symm
       clear hE
       as_aux_lemma =>
        obtain rfl : E = false := by rw [← HE.out, HV.out, HF1.out, HP2.out]; rfl
        go_wp2
        go_ret
        exact ⟨rfl, Below.step HB.out (Bl.prop _)⟩
      | focus
       obtain rfl : b2 = true := hE.symm
       clear hE
       as_aux_lemma =>
        have HF2 := HP2
        go_wp2
        go_loopg [47] F.length (fun gk v47 wr => ∃ (j : Nat) (prev : Int) (z : Bl W0), gk = F.length - j ∧ j ≤ F.length ∧ v47 = .int .i64 j ∧ wr = z.val ∧ Hid ((j = 0 ∧ prev = 0) ∨ ∃ (i : Nat) (y : KFact), j = i + 1 ∧ F[i]? = some y ∧ y.ref = prev) ∧ Hid (okFactsL C 0 F = okFactsL C prev (F.drop j)))
        case atStart => exact ⟨0, 0, _, rfl, Nat.zero_le _, rfl, rfl, .inl ⟨rfl, rfl⟩, rfl⟩
        case round =>
         obtain ⟨j, prev, z, hgk, hj, rfl, rfl, hlast, hpre⟩ := hrel
         have HGK := Lib.hid hgk; clear hgk
         by_cases hlt : j < F.length
         · obtain ⟨fb, fo, hA0, hfb, hcell⟩ := HFS.out.fact (by omega)
           subst hA0
           obtain ⟨⟨re, ac, lo, hi, fi, se⟩, hx⟩ : ∃ x, F[j]? = some x := ⟨F[j], List.getElem?_eq_getElem hlt⟩
           obtain ⟨e0, e1, e2, e3, e4, e5⟩ := rzz6 (fun z hz => hcell j _ hx z (Below.step HB.out hz)) rfl
           have HST : Hid (okFactsL C 0 F = (okFactK C ⟨re, ac, lo, hi, fi, se⟩ && (decide (prev < re) && okFactsL C re (F.drop (j + 1))))) := by show _ = _; rw [hpre.out, drop_get hx]; rfl
           have HX := Lib.hid hx; clear hx
           have j1 : (j : Int) < (F.length : Int) := by omega
           go_upto_region 9 with (fail)
           generalize hWa : World.alloc _ _ = Wa
           obtain ⟨hba, hxa⟩ := bx1' hWa
           clear hWa
           have HPa : Hid (Below W0.heap.size W0 Wa) := Below.step z.prop hba
           obtain ⟨d0, d1, d2, d3, d4, d5⟩ := kc6 hxa
           have c0 := kup HPa.out k0_0
           have c1 := kup HPa.out k0_1
           have c2 := kup HPa.out k0_2
           have c3 := kup HPa.out k0_3
           have c4 := kup HPa.out k0_4
           have c5 := kup HPa.out k0_5
           have c6 := kup HPa.out k0_6
           have h0 := kup HPa.out k1_0
           have h1 := kup HPa.out k1_1
           have h2 := kup HPa.out k1_2
           clear hxa hba
           change Code.wp _ _ _ _ (Bl.val (⟨Wa, Below.refl _ _⟩ : Bl Wa))
           generalize (⟨Wa, Below.refl _ _⟩ : Bl Wa) = sa
           have HVF := Lib.hid (fun s : Bl Wa => validFact_any (⟨⟨vhA, vhc⟩, ⟨vuA, vuc⟩, ⟨vaA, vac⟩, ⟨vkA, vkc⟩, ⟨voA, voc⟩⟩ : CV) C re ac lo hi fi se s.val)
           simp only [CV.val, CV.cells] at HVF
           clear e0 e1 e2 e3 e4 e5 k0_0 k0_1 k0_2 k0_3 k0_4 k0_5 k0_6 k1_0 k1_1 k1_2
           rcases hlast.out with ⟨hj0, hp0⟩ | ⟨i, y, rfl, hy, rfl⟩
           · have q4 : decide ((0 : Int) < (j : Int)) = false := by rw [decide_eq_false_iff_not]; omega
             have q5 : decide (0 < j) = false := by rw [decide_eq_false_iff_not]; omega
             have q6 : ¬ (0 : Int) < (j : Int) := by omega
             have q7 : ¬ 0 < j := by omega
             have hpv : 0 = prev := hp0.symm
             subst hpv
             clear hj0 hlast hcell
             cases q1 : okFactK C ⟨re, ac, lo, hi, fi, se⟩ with
             | false =>
              obtain rfl : E = false := by rw [← HE.out, HV.out, HF1.out, HF2.out, HST.out, q1]; rfl
              have q1b : okFactB C re ac lo hi fi = false := q1
              rw [q1b] at HVF
              go_wp2
              refine wp_region_bl (by kernel_rfl) (by kernel_rfl) ?_
              repeat (go_big_quiet_step (first | (go_at_call 29; exact Calls.bl_of (lit (HVF.out _) (by assumption))) | (go_at_call 29; exact Calls.bl_of (HVF.out _))))
              refine wpQuiet_nil ?_
              rintro _ ⟨zq, rfl⟩
              go_wp2
              go_ret
              exact ⟨rfl, Below.step HB.out (Below.step HPa.out (Bl.prop _))⟩
             | true =>
              have q1b : okFactB C re ac lo hi fi = true := q1
              rw [q1b] at HVF
              clear q1b
              have q3 : decide ((0 : Int) < re) = true := by
               rw [decide_eq_true_eq]
               have h := q1
               unfold okFactK okFactB at h
               simp only [Bool.and_eq_true, decide_eq_true_eq] at h
               omega
              have HQ3 := Lib.hid q3
              have HQ1 := Lib.hid q1
              clear q3 q1
              have HNX : Hid (okFactsL C 0 F = okFactsL C re (F.drop (j + 1))) := by show _ = _; rw [HST.out, HQ1.out, HQ3.out]; rfl
              go_wp2
              refine wp_region_bl (by kernel_rfl) (by kernel_rfl) ?_
              repeat (go_big_quiet_step (first | (go_at_call 29; exact Calls.bl_of (lit (HVF.out _) (by assumption))) | (go_at_call 29; exact Calls.bl_of (HVF.out _))))
              refine wpQuiet_nil ?_
              rintro _ ⟨zq, rfl⟩
              go_wp2
              go_roundg (F.length - (j + 1))
              case measure => have := HGK.out; omega
              case rel => exact ⟨j + 1, re, ⟨_, Below.step HPa.out (Bl.prop _)⟩, rfl, by omega, by go_num, rfl, .inr ⟨j, _, rfl, HX.out, rfl⟩, HNX.out⟩
           · have g0 : ∀ s : Bl Wa, s.val.cell? ⟨fb, fo + i * 6, none⟩ = some (.int .i64 y.ref) := fun s => hcell i y hy s.val (Below.step (Below.step HB.out HPa.out) s.prop) 0 (by omega)
             have q4 : decide ((0 : Int) < ((i + 1 : Nat) : Int)) = true := by rw [decide_eq_true_eq]; omega
             have q5' : ((i + 1 : Nat) : Int) - 1 = (i : Int) := by omega
             have i1 : (i : Int) < (F.length : Int) := by omega
             clear hy hlast hcell
             generalize y.ref = prev at HST g0
             cases q1 : okFactK C ⟨re, ac, lo, hi, fi, se⟩ with
             | false =>
              obtain rfl : E = false := by rw [← HE.out, HV.out, HF1.out, HF2.out, HST.out, q1]; rfl
              have q1b : okFactB C re ac lo hi fi = false := q1
              rw [q1b] at HVF
              go_wp2
              refine wp_region_bl (by kernel_rfl) (by kernel_rfl) ?_
              repeat (go_big_quiet_step (first | (go_at_call 29; exact Calls.bl_of (lit (HVF.out _) (by assumption))) | (go_at_call 29; exact Calls.bl_of (HVF.out _))))
              refine wpQuiet_nil ?_
              rintro _ ⟨zq, rfl⟩
              go_wp2
              go_ret
              exact ⟨rfl, Below.step HB.out (Below.step HPa.out (Bl.prop _))⟩
             | true =>
              have q1b : okFactB C re ac lo hi fi = true := q1
              rw [q1b] at HVF
              clear q1b
              have HQ1 := Lib.hid q1
              clear q1
              cases q3 : decide (prev < re) with
              | true =>
               have q5 : decide (re ≤ prev) = false := by rw [decide_eq_true_eq] at q3; rw [decide_eq_false_iff_not]; omega
               have HNX : Hid (okFactsL C 0 F = okFactsL C re (F.drop (i + 1 + 1))) := by show _ = _; rw [HST.out, HQ1.out, q3]; rfl
               go_wp2
               refine wp_region_bl (by kernel_rfl) (by kernel_rfl) ?_
               repeat (go_big_quiet_step (first | (go_at_call 29; exact Calls.bl_of (lit (HVF.out _) (by assumption))) | (go_at_call 29; exact Calls.bl_of (HVF.out _))))
               refine wpQuiet_nil ?_
               rintro _ ⟨zq, rfl⟩
               go_wp2
               go_roundg (F.length - (i + 1 + 1))
               case measure => have := HGK.out; omega
               case rel => exact ⟨i + 1 + 1, re, ⟨_, Below.step HPa.out (Bl.prop _)⟩, rfl, by omega, by go_num, rfl, .inr ⟨i + 1, _, rfl, HX.out, rfl⟩, HNX.out⟩
              | false =>
               have q5 : decide (re ≤ prev) = true := by rw [decide_eq_false_iff_not] at q3; rw [decide_eq_true_eq]; omega
               obtain rfl : E = false := by rw [← HE.out, HV.out, HF1.out, HF2.out, HST.out, HQ1.out, q3]; rfl
               go_wp2
               refine wp_region_bl (by kernel_rfl) (by kernel_rfl) ?_
               repeat (go_big_quiet_step (first | (go_at_call 29; exact Calls.bl_of (lit (HVF.out _) (by assumption))) | (go_at_call 29; exact Calls.bl_of (HVF.out _))))
               refine wpQuiet_nil ?_
               rintro _ ⟨zq, rfl⟩
               go_wp2
               go_ret
               exact ⟨rfl, Below.step HB.out (Below.step HPa.out (Bl.prop _))⟩
         · obtain rfl : j = F.length := by omega
           have HFO : Hid (okFactsL C 0 F = true) := by show _ = _; rw [hpre.out, List.drop_of_length_le (Nat.le_refl _)]; rfl
           clear hpre hlast HGK
           have HD : Hid (Distinct F) := okFactsL_distinct HFO.out
           have hn4 : F.length ≤ 1000000 := by
            have h := HF2.out
            simp only [Bool.not_eq_true', Bool.or_eq_false_iff, decide_eq_false_iff_not] at h
            omega
           go_wp2
           go_loopg [76] O.length (fun gk v76 wr => ∃ (j : Nat) (prev : Option KBef) (z : Bl W0), gk = O.length - j ∧ j ≤ O.length ∧ v76 = .int .i64 j ∧ wr = z.val ∧ Hid ((j = 0 ∧ prev = none) ∨ ∃ (i : Nat) (a : KBef), j = i + 1 ∧ O[i]? = some a ∧ prev = some a) ∧ Hid (okOrdL F none O = okOrdL F prev (O.drop j)))
           case atStart => exact ⟨0, none, _, rfl, Nat.zero_le _, rfl, rfl, .inl ⟨rfl, rfl⟩, rfl⟩
           case round =>
            obtain ⟨j, prev, z, hgk, hj, rfl, rfl, hlast, hpre⟩ := hrel
            have HGK := Lib.hid hgk; clear hgk
            by_cases hlt : j < O.length
            · obtain ⟨ob, oo, hA0, hob, hcell⟩ := HOS.out.bef (by omega)
              subst hA0
              obtain ⟨⟨br, bn⟩, hx⟩ : ∃ x, O[j]? = some x := ⟨O[j], List.getElem?_eq_getElem hlt⟩
              have e0 : ∀ s : Bl W0, s.val.cell? ⟨ob, oo + j * 2, none⟩ = some (.int .i64 br) := fun s => hcell j _ hx s.val (Below.step HB.out s.prop) 0 (by omega)
              have e1 : ∀ s : Bl W0, s.val.cell? ⟨ob, oo + j * 2 + 1, none⟩ = some (.int .i64 bn) := fun s => hcell j _ hx s.val (Below.step HB.out s.prop) 1 (by omega)
              have HST : Hid (okOrdL F none O = (hasRef F br && (hasRef F bn && ((!(br == bn)) && (ordPre prev ⟨br, bn⟩ && okOrdL F (some ⟨br, bn⟩) (O.drop (j + 1))))))) := by show _ = _; rw [hpre.out, drop_get hx]; rfl
              have HX := Lib.hid hx; clear hx
              have j1 : (j : Int) < (O.length : Int) := by omega
              go_upto_region 15 with (fail)
              generalize hWa : World.alloc _ _ = Wa
              obtain ⟨hba, hxa⟩ := bx1' hWa
              clear hWa
              have HPa : Hid (Below W0.heap.size W0 Wa) := Below.step z.prop hba
              obtain ⟨d0, d1⟩ := kc2 hxa
              have c0 := kup HPa.out k0_0
              have c1 := kup HPa.out k0_1
              have c2 := kup HPa.out k0_2
              have c3 := kup HPa.out k0_3
              have c4 := kup HPa.out k0_4
              have c5 := kup HPa.out k0_5
              have c6 := kup HPa.out k0_6
              have h0 := kup HPa.out k1_0
              have h1 := kup HPa.out k1_1
              have h2 := kup HPa.out k1_2
              clear hxa hba
              change Code.wp _ _ _ _ (Bl.val (⟨Wa, Below.refl _ _⟩ : Bl Wa))
              generalize (⟨Wa, Below.refl _ _⟩ : Bl Wa) = sa
              have HOF := Lib.hid (fun (r : Int) (s : Bl Wa) => ofRef_any F fA fc r s.val (HFS.out.below (by omega) (Below.step (Below.step HB.out HPa.out) s.prop)) hn4 HD.out)
              clear e0 e1 k0_0 k0_1 k0_2 k0_3 k0_4 k0_5 k0_6 k1_0 k1_1 k1_2
              go_wp2_with (go_at_call 30; refine (HOF.out br _).mono ?_; rintro e z ⟨n, rfl, hz⟩; obtain ⟨z, rfl⟩ := Bl.on hz; clear hz; refine Hid.out ?_)
              refine Lib.hid ?_
              go_wp2_with (go_at_call 30; refine (HOF.out bn _).mono ?_; rintro e z ⟨n, rfl, hz⟩; obtain ⟨z, rfl⟩ := Bl.on hz; clear hz; refine Hid.out ?_)
              refine Lib.hid ?_
              clear HOF
              rcases hlast.out with ⟨hj0, rfl⟩ | ⟨i, a, rfl, ha, rfl⟩
              · have p4 : decide ((0 : Int) < (j : Int)) = false := by rw [decide_eq_false_iff_not]; omega
                have p5 : decide (0 < j) = false := by rw [decide_eq_false_iff_not]; omega
                have p6 : ¬ (0 : Int) < (j : Int) := by omega
                have p7 : ¬ 0 < j := by omega
                clear hj0 hlast hcell
                focus
                 cases q1 : hasRef F br
                 focus
                  obtain rfl : E = false := by rw [← HE.out, HV.out, HF1.out, HF2.out, HFO.out, HST.out, q1]; rfl
                 rotate_left
                 focus
                  cases q2 : hasRef F bn
                  focus
                   obtain rfl : E = false := by rw [← HE.out, HV.out, HF1.out, HF2.out, HFO.out, HST.out, q1, q2]; rfl
                  rotate_left
                  focus
                   cases q3 : (br == bn)
                   focus
                    have HNX : Hid (okOrdL F none O = okOrdL F (some ⟨br, bn⟩) (O.drop (j + 1))) := by show _ = _; rw [HST.out, q1, q2, q3]; rfl
                    go_wp2
                    refine wp_region_bl (by kernel_rfl) (by kernel_rfl) ?_
                    repeat (go_big_quiet_step (first | fail))
                    refine wpQuiet_nil ?_
                    rintro _ ⟨zq, rfl⟩
                    go_wp2
                    go_roundg (O.length - (j + 1))
                    case measure => have := HGK.out; omega
                    case rel => exact ⟨j + 1, some ⟨br, bn⟩, ⟨_, Below.step HPa.out (Bl.prop _)⟩, rfl, by omega, by go_num, rfl, .inr ⟨j, _, rfl, HX.out, rfl⟩, HNX.out⟩
                   focus
                    obtain rfl : E = false := by rw [← HE.out, HV.out, HF1.out, HF2.out, HFO.out, HST.out, q1, q2, q3]; rfl
                 all_goals
                  go_wp2
                  refine wp_region_bl (by kernel_rfl) (by kernel_rfl) ?_
                  repeat (go_big_quiet_step (first | fail))
                  refine wpQuiet_nil ?_
                  rintro _ ⟨zq, rfl⟩
                  go_wp2
                  go_ret
                  exact ⟨rfl, Below.step HB.out (Below.step HPa.out (Bl.prop _))⟩
              · have g0 : ∀ s : Bl Wa, s.val.cell? ⟨ob, oo + i * 2, none⟩ = some (.int .i64 a.ref) := fun s => hcell i a ha s.val (Below.step (Below.step HB.out HPa.out) s.prop) 0 (by omega)
                have g1 : ∀ s : Bl Wa, s.val.cell? ⟨ob, oo + i * 2 + 1, none⟩ = some (.int .i64 a.next) := fun s => hcell i a ha s.val (Below.step (Below.step HB.out HPa.out) s.prop) 1 (by omega)
                have p4 : decide ((0 : Int) < ((i + 1 : Nat) : Int)) = true := by rw [decide_eq_true_eq]; omega
                have p5 : ((i + 1 : Nat) : Int) - 1 = (i : Int) := by omega
                have i1 : (i : Int) < (O.length : Int) := by omega
                have HCB := Lib.hid (fun s : Bl Wa => cmpB_any a ⟨br, bn⟩ s.val)
                have HY : Hid (decide (0 ≤ cmpB a ⟨br, bn⟩) = !ordPre (some a) ⟨br, bn⟩) := cmpB_ge a ⟨br, bn⟩
                generalize cmpB a ⟨br, bn⟩ = y at HCB HY
                clear ha hlast hcell
                focus
                 cases q1 : hasRef F br
                 focus
                  obtain rfl : E = false := by rw [← HE.out, HV.out, HF1.out, HF2.out, HFO.out, HST.out, q1]; rfl
                 rotate_left
                 focus
                  cases q2 : hasRef F bn
                  focus
                   obtain rfl : E = false := by rw [← HE.out, HV.out, HF1.out, HF2.out, HFO.out, HST.out, q1, q2]; rfl
                  rotate_left
                  focus
                   cases q3 : (br == bn)
                   focus
                    cases q4 : ordPre (some a) ⟨br, bn⟩
                    focus
                     have q5 : decide (0 ≤ y) = true := by rw [HY.out, q4]; rfl
                     obtain rfl : E = false := by rw [← HE.out, HV.out, HF1.out, HF2.out, HFO.out, HST.out, q1, q2, q3, q4]; rfl
                    rotate_left
                    focus
                     have q5 : decide (0 ≤ y) = false := by rw [HY.out, q4]; rfl
                     have HNX : Hid (okOrdL F none O = okOrdL F (some ⟨br, bn⟩) (O.drop ((i + 1) + 1))) := by show _ = _; rw [HST.out, q1, q2, q3, q4]; rfl
                     go_wp2
                     refine wp_region_bl (by kernel_rfl) (by kernel_rfl) ?_
                     repeat (go_big_quiet_step (first | (go_at_call 31; exact Calls.bl_of (lit (HCB.out _) (by assumption))) | (go_at_call 31; exact Calls.bl_of (HCB.out _))))
                     refine wpQuiet_nil ?_
                     rintro _ ⟨zq, rfl⟩
                     go_wp2
                     go_roundg (O.length - ((i + 1) + 1))
                     case measure => have := HGK.out; omega
                     case rel => exact ⟨(i + 1) + 1, some ⟨br, bn⟩, ⟨_, Below.step HPa.out (Bl.prop _)⟩, rfl, by omega, by go_num, rfl, .inr ⟨(i + 1), _, rfl, HX.out, rfl⟩, HNX.out⟩
                   rotate_left
                   focus
                    obtain rfl : E = false := by rw [← HE.out, HV.out, HF1.out, HF2.out, HFO.out, HST.out, q1, q2, q3]; rfl
                 all_goals
                  go_wp2
                  refine wp_region_bl (by kernel_rfl) (by kernel_rfl) ?_
                  repeat (go_big_quiet_step (first | (go_at_call 31; exact Calls.bl_of (lit (HCB.out _) (by assumption))) | (go_at_call 31; exact Calls.bl_of (HCB.out _))))
                  refine wpQuiet_nil ?_
                  rintro _ ⟨zq, rfl⟩
                  go_wp2
                  go_ret
                  exact ⟨rfl, Below.step HB.out (Below.step HPa.out (Bl.prop _))⟩
            · obtain rfl : j = O.length := by omega
              obtain rfl : E = true := by rw [← HE.out, HV.out, HF1.out, HF2.out, HFO.out, hpre.out, List.drop_of_length_le (Nat.le_refl _)]; rfl
              go_wp2
              go_ret
              exact ⟨rfl, Below.step HB.out (Bl.prop _)⟩
end Go.Proofs.YtahhdjeclbagnaaGreatDoor
