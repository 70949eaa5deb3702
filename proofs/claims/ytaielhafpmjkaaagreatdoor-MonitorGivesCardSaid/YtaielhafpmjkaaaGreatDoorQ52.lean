/-
  RefD
-/
import Derived.Test.YtaielhafpmjkaaaGreatDoorQ49
import Derived.Test.YtaielhafpmjkaaaGreatDoorQ10
namespace Go.Proofs.YtaielhafpmjkaaaGreatDoor
open Go.RowKit
def runsB (ms : Int) : Bool := (ms == 1) || (ms == 2)
def endedB (ms : Int) : Bool := (ms == 3) || ((ms == 4) || (ms == 5))
set_option maxRecDepth 100000 in
set_option maxHeartbeats 4000000 in
theorem rruns_any (ms ml mg mb : Int) (mp : Bool) (w : World) : Calls Tryz.prog 110 #[.agg #[.int .i64 ms, .int .i64 ml, .int .i64 mg, .int .i64 mb, .bool mp]] w (RetB (.bool (runsB ms)) w) := by
 rw [cd_self (runsB ms)]
 generalize hE : cond (runsB ms) true false = E
 simp only [runsB, cds] at hE
 go_enter Tryz.func110, Tryz.ntmps110
 go_upto_region 1 with (fail)
 generalize hW0 : World.alloc _ _ = W0
 obtain ⟨HB, hh0⟩ := bx1 hW0; clear hW0
 obtain ⟨k0_0, k0_1, k0_2, k0_3, k0_4⟩ := kc5 hh0
 clear hh0
 change Code.wp _ _ _ _ (Bl.val (⟨W0, Below.refl _ _⟩ : Bl W0))
 generalize (⟨W0, Below.refl _ _⟩ : Bl W0) = s0
 repeat' (first | (replace hE := cd_t hE (by assumption)) | (replace hE := cd_f hE (by assumption)) | (replace hE := cd_eq hE; rcases hE with ⟨q, q', hE⟩ | ⟨q, q', hE⟩) | (replace hE := cd_any hE; rcases hE with ⟨q, hE⟩ | ⟨q, hE⟩) | fail)
 all_goals
  subst hE
  go_wp2_with (first | fail)
  first
   | (go_ret; exact ⟨rfl, Below.step HB.out (Bl.prop _)⟩)
   | (refine wp_region_bl (by kernel_rfl) (by kernel_rfl) ?_; (repeat (go_big_quiet_step (first | fail))); refine wpQuiet_nil ?_; rintro _ ⟨zq, rfl⟩; go_wp2_with (first | fail); go_ret; exact ⟨rfl, Below.step HB.out (Bl.prop _)⟩)
set_option maxRecDepth 100000 in
set_option maxHeartbeats 4000000 in
theorem rended_any (ms ml mg mb : Int) (mp : Bool) (w : World) : Calls Tryz.prog 109 #[.agg #[.int .i64 ms, .int .i64 ml, .int .i64 mg, .int .i64 mb, .bool mp]] w (RetB (.bool (endedB ms)) w) := by
 rw [cd_self (endedB ms)]
 generalize hE : cond (endedB ms) true false = E
 simp only [endedB, cds] at hE
 go_enter Tryz.func109, Tryz.ntmps109
 go_upto_region 1 with (fail)
 generalize hW0 : World.alloc _ _ = W0
 obtain ⟨HB, hh0⟩ := bx1 hW0; clear hW0
 obtain ⟨k0_0, k0_1, k0_2, k0_3, k0_4⟩ := kc5 hh0
 clear hh0
 change Code.wp _ _ _ _ (Bl.val (⟨W0, Below.refl _ _⟩ : Bl W0))
 generalize (⟨W0, Below.refl _ _⟩ : Bl W0) = s0
 repeat' (first | (replace hE := cd_t hE (by assumption)) | (replace hE := cd_f hE (by assumption)) | (replace hE := cd_eq hE; rcases hE with ⟨q, q', hE⟩ | ⟨q, q', hE⟩) | (replace hE := cd_any hE; rcases hE with ⟨q, hE⟩ | ⟨q, hE⟩) | fail)
 all_goals
  subst hE
  go_wp2_with (first | fail)
  first
   | (go_ret; exact ⟨rfl, Below.step HB.out (Bl.prop _)⟩)
   | (refine wp_region_bl (by kernel_rfl) (by kernel_rfl) ?_; (repeat (go_big_quiet_step (first | fail))); refine wpQuiet_nil ?_; rintro _ ⟨zq, rfl⟩; go_wp2_with (first | fail); go_ret; exact ⟨rfl, Below.step HB.out (Bl.prop _)⟩)
def rMarkB (C : KCon) (ki ne af gr pa : Int) (wa : Bool) (ms ml mg mb : Int) (mp : Bool) : Bool :=
 cond (endedB ms) ((ml == 0) && (decide (0 ≤ mg) && (decide (mg ≤ 9) && (decide (-1 ≤ mb) && (decide (mb < C.parties) && !mp)))))
 (cond wa false (cond (ms == 0) (mark0B ms ml mg mb mp)
 (cond ((!runsB ms) || (decide (mg < 0) || (mp && (pa == -1)))) false
 (cond (((ki == 1) && decide (ne ≤ mg)) || ((!(ki == 1)) && (!(mg == 0)))) false
 (cond (((ki == 4) && (!(mb == -1))) || ((!(ki == 4)) && (decide (mb < 0) || decide (C.parties ≤ mb)))) false
 (cond (ms == 1) (decide (1 ≤ ml) && decide (ml ≤ af)) ((ki == 1) && (decide (1 ≤ ml) && decide (ml ≤ gr)))))))))
theorem rMarkB_eq (C : KCon) (ki ne af gr pa : Int) (wa : Bool) (ms ml mg mb : Int) (mp : Bool) (hn : ki = 1 → 1 ≤ ne) : rMarkB C ki ne af gr pa wa ms ml mg mb mp = okMarkB C ki ne af gr pa wa ms ml mg mb mp := by
 unfold rMarkB okMarkB okRunB endedB runsB
 by_cases e0 : ms = 0
 · subst e0
   cases wa <;> cases mark0B 0 ml mg mb mp <;> rfl
 by_cases e3 : ms = 3
 · subst e3; cases ml == 0 <;> cases wa <;> rfl
 by_cases e4 : ms = 4
 · subst e4; cases ml == 0 <;> cases wa <;> rfl
 by_cases e5 : ms = 5
 · subst e5; cases ml == 0 <;> cases wa <;> rfl
 rw [Bool.eq_iff_iff]
 by_cases e1 : ms = 1
 · subst e1
   by_cases k1 : ki = 1
   · subst k1
     have := hn rfl
     cases wa <;> cases mp <;> simp <;> omega
   · by_cases k4 : ki = 4
     · subst k4; cases wa <;> cases mp <;> simp <;> omega
     · cases wa <;> cases mp <;> simp [k1, k4] <;> omega
 by_cases e2 : ms = 2
 · subst e2
   by_cases k1 : ki = 1
   · subst k1
     have := hn rfl
     cases wa <;> cases mp <;> simp <;> omega
   · cases wa <;> simp [k1]
 · simp [e0, e1, e2, e3, e4, e5]
set_option maxRecDepth 100000 in
set_option maxHeartbeats 4000000 in
theorem rmark_raw (v : CV) (C : KCon) (ki ro ac ne : Int) (st : SV) (sl : Nat) (af gr : Int) (bu fi : Bool) (pa re vn vd un tg : Int) (wa : Bool) (ms ml mg mb : Int) (mp : Bool) (w : World) : Calls Tryz.prog 86 #[v.val C, .agg #[.int .i64 ki, .int .i64 ro, .int .i64 ac, .int .i64 ne, .slice st.A sl st.c, .int .i64 af, .int .i64 gr, .bool bu, .bool fi, .int .i64 pa, .int .i64 re, .int .i64 vn, .int .i64 vd, .int .i64 un, .int .i64 tg, .bool wa], .agg #[.int .i64 ms, .int .i64 ml, .int .i64 mg, .int .i64 mb, .bool mp]] w (RetB (.bool (rMarkB C ki ne af gr pa wa ms ml mg mb mp)) w) := by
 obtain ⟨⟨vhA, vhc⟩, ⟨vuA, vuc⟩, ⟨vaA, vac⟩, ⟨vkA, vkc⟩, ⟨voA, voc⟩⟩ := v
 simp only [CV.val, CV.cells]
 have heq := fun (w : World) => run_eql_mark0 w ms ml mg mb mp
 rw [cd_self (rMarkB C ki ne af gr pa wa ms ml mg mb mp)]
 generalize hE : cond (rMarkB C ki ne af gr pa wa ms ml mg mb mp) true false = E
 simp only [rMarkB, cds] at hE
 go_enter Tryz.func86, Tryz.ntmps86
 go_upto_region 1 with (fail)
 generalize hW0 : World.alloc _ _ = W0
 obtain ⟨HB, hh0, hh1, hh2⟩ := bx3 hW0; clear hW0
 obtain ⟨k0_0, k0_1, k0_2, k0_3, k0_4, k0_5, k0_6⟩ := kc7 hh0
 clear hh0
 obtain ⟨k1_0, k1_1, k1_2, k1_3, k1_4, k1_5, k1_6, k1_7, k1_8, k1_9, k1_10, k1_11, k1_12, k1_13, k1_14, k1_15⟩ := kc16 hh1
 clear hh1
 obtain ⟨k2_0, k2_1, k2_2, k2_3, k2_4⟩ := kc5 hh2
 clear hh2
 change Code.wp _ _ _ _ (Bl.val (⟨W0, Below.refl _ _⟩ : Bl W0))
 generalize (⟨W0, Below.refl _ _⟩ : Bl W0) = s0
 repeat' (first | (replace hE := cd_t hE (by assumption)) | (replace hE := cd_f hE (by assumption)) | (replace hE := cd_eq hE; rcases hE with ⟨q, q', hE⟩ | ⟨q, q', hE⟩) | (replace hE := cd_any hE; rcases hE with ⟨q, hE⟩ | ⟨q, hE⟩) | fail)
 all_goals
  subst hE
  go_wp2_with (first | (go_at_call 109; refine (lit (rended_any _ _ _ _ _ _) (by assumption)).mono ?_; rintro e z ⟨rfl, hz⟩; obtain ⟨z, rfl⟩ := Bl.on hz; clear hz) | (go_at_call 109; refine (rended_any _ _ _ _ _ _).mono ?_; rintro e z ⟨rfl, hz⟩; obtain ⟨z, rfl⟩ := Bl.on hz; clear hz) | (go_at_call 110; refine (lit (rruns_any _ _ _ _ _ _) (by assumption)).mono ?_; rintro e z ⟨rfl, hz⟩; obtain ⟨z, rfl⟩ := Bl.on hz; clear hz) | (go_at_call 110; refine (rruns_any _ _ _ _ _ _).mono ?_; rintro e z ⟨rfl, hz⟩; obtain ⟨z, rfl⟩ := Bl.on hz; clear hz))
  first
   | (go_ret; exact ⟨rfl, Below.step HB.out (Bl.prop _)⟩)
   | (refine wp_region_bl (by kernel_rfl) (by kernel_rfl) ?_; (repeat (go_big_quiet_step (first | (go_at_call 109; exact Calls.bl_of (lit (rended_any _ _ _ _ _ _) (by assumption))) | (go_at_call 109; exact Calls.bl_of (rended_any _ _ _ _ _ _)) | (go_at_call 110; exact Calls.bl_of (lit (rruns_any _ _ _ _ _ _) (by assumption))) | (go_at_call 110; exact Calls.bl_of (rruns_any _ _ _ _ _ _))))); refine wpQuiet_nil ?_; rintro _ ⟨zq, rfl⟩; go_wp2_with (first | (go_at_call 109; refine (lit (rended_any _ _ _ _ _ _) (by assumption)).mono ?_; rintro e z ⟨rfl, hz⟩; obtain ⟨z, rfl⟩ := Bl.on hz; clear hz) | (go_at_call 109; refine (rended_any _ _ _ _ _ _).mono ?_; rintro e z ⟨rfl, hz⟩; obtain ⟨z, rfl⟩ := Bl.on hz; clear hz) | (go_at_call 110; refine (lit (rruns_any _ _ _ _ _ _) (by assumption)).mono ?_; rintro e z ⟨rfl, hz⟩; obtain ⟨z, rfl⟩ := Bl.on hz; clear hz) | (go_at_call 110; refine (rruns_any _ _ _ _ _ _).mono ?_; rintro e z ⟨rfl, hz⟩; obtain ⟨z, rfl⟩ := Bl.on hz; clear hz)); go_ret; exact ⟨rfl, Below.step HB.out (Bl.prop _)⟩)
def holdsR (is x : Int) : Bool := cond (is == 1) (!(x == 0)) (x == is + 1)
theorem holdsR_eq {is : Int} (x : Int) (h0 : 1 ≤ is) (h1 : is ≤ 4) : holdsR is x = holdsB is x := by
 unfold holdsR holdsB
 rcases (by omega : is = 1 ∨ is = 2 ∨ is = 3 ∨ is = 4) with rfl | rfl | rfl | rfl <;> rfl
set_option maxRecDepth 100000 in
set_option maxHeartbeats 1000000 in
theorem rholds_any (A : SV) (ms : List KMark) (cl is : Int) (w : World) (hM : At w 5 A.A ms.length A.c (ms.flatMap KMark.cells)) (h0 : 0 ≤ cl) (h1 : cl < ms.length) (h2 : 1 ≤ is) (h3 : is ≤ 4) : Calls Tryz.prog 111 #[.slice A.A ms.length A.c, .agg #[.int .i64 cl, .int .i64 is]] w (RetB (.bool (holdsB is (statusAt ms cl))) w) := by
 rw [← holdsR_eq _ h2 h3]
 obtain ⟨A, c⟩ := A
 obtain ⟨b, off, hA, hb, hc⟩ := hM.1.form (by omega) (by omega)
 try simp only at hA
 subst hA
 obtain ⟨m, hm⟩ : ∃ m, ms[cl.toNat]? = some m := ⟨ms[cl.toNat]'(by omega), List.getElem?_eq_getElem _⟩
 have hs : statusAt ms cl = m.status := by unfold statusAt; rw [hm]; rfl
 rw [hs]
 obtain ⟨x, ml, mg, mb, mp⟩ := m
 simp only
 have k0 : w.cell? ⟨b, off + cl.toNat * 5, none⟩ = some (.int .i64 x) := by rw [hc _ (by omega)]; exact get_flat KMark.cells 5 (fun _ => rfl) ms cl.toNat 0 _ hm (by omega)
 have hcx : c ≤ 9223372036854775807 := by have h2 := hM.2.2.2; unfold maxLen at h2; omega
 clear hM hc hm hs
 rw [cd_self (holdsR is x)]
 generalize hE : cond (holdsR is x) true false = E
 simp only [holdsR, cds] at hE
 go_enter Tryz.func111, Tryz.ntmps111
 go_upto_region 1 with (fail)
 generalize hW0 : World.alloc _ _ = W0
 obtain ⟨hb0, hh0⟩ := bx1' hW0
 clear hW0
 obtain ⟨q0, q1⟩ := kc2 hh0
 have c0 : W0.cell? ⟨b, off + cl.toNat * 5, none⟩ = some (.int .i64 x) := (hb0.cell (p := ⟨b, off + cl.toNat * 5, none⟩) hb).trans k0
 replace q0 := q0 ⟨W0, Below.refl _ _⟩
 replace q1 := q1 ⟨W0, Below.refl _ _⟩
 simp only at q0 q1
 have HB := Lib.hid hb0
 clear hb0 hh0 k0
 repeat' (first | (replace hE := cd_t hE (by assumption)) | (replace hE := cd_f hE (by assumption)) | (replace hE := cd_eq hE; rcases hE with ⟨q, q', hE⟩ | ⟨q, q', hE⟩) | (replace hE := cd_any hE; rcases hE with ⟨q, hE⟩ | ⟨q, hE⟩) | fail)
 all_goals
  subst hE
  go_wp2
  go_ret
  exact ⟨rfl, HB.out⟩
set_option maxRecDepth 100000 in
set_option maxHeartbeats 4000000 in
theorem rready_any (v : CV) (C : KCon) (sv : SV) (ms : List KMark) (i : Nat) (k : KClause) (m : KMark) (w : World) (hC : ConAt w v C) (hM : At w 5 sv.A ms.length sv.c (ms.flatMap KMark.cells)) (hk : C.clauses[i]? = some k) (hm : ms[i]? = some m) (hin : ∀ c ∈ k.start, (0 ≤ c.clause ∧ c.clause < ms.length) ∧ 1 ≤ c.is ∧ c.is ≤ 4) :
 Calls Tryz.prog 87 #[v.val C, .slice sv.A ms.length sv.c, .int .i64 i] w (RetB (.bool (readyK ms k m)) w) := by
 have hil : i < C.clauses.length := (List.getElem?_eq_some_iff.1 hk).1
 have him : i < ms.length := (List.getElem?_eq_some_iff.1 hm).1
 obtain ⟨b, off, ⟨stA, stc⟩, hA0, hb, hcell, hst⟩ := hC.clause hk
 obtain ⟨sA, sc⟩ := sv
 obtain ⟨mb, moff, hM0, hmb, hmc⟩ := hM.1.form (by omega) (by omega)
 obtain ⟨⟨vhA, vhc⟩, ⟨vuA, vuc⟩, ⟨vaA, vac⟩, ⟨vkA, vkc⟩, ⟨voA, voc⟩⟩ := v
 simp only at hA0 hM0
 subst hA0 hM0
 have hmx : ms.length ≤ 9223372036854775807 := by have h1 := hM.2.2.1; have h2 := hM.2.2.2; unfold maxLen at h2; simp only at h1 h2; omega
 have hsx : k.start.length ≤ 9223372036854775807 := by have h1 := hst.2.2.1; have h2 := hst.2.2.2; unfold maxLen at h2; simp only at h1 h2; omega
 obtain ⟨ki, ro, ac, ne, start, af, gr, bu, fi, pa, re, ⟨vn, vd⟩, un, tg, wa⟩ := k
 obtain ⟨st, ml, mg, mbr, mp⟩ := m
 generalize hE : readyK ms ⟨ki, ro, ac, ne, start, af, gr, bu, fi, pa, re, ⟨vn, vd⟩, un, tg, wa⟩ ⟨st, ml, mg, mbr, mp⟩ = E
 simp only [readyK] at hE
 have HE := Lib.hid hE; clear hE
 have HST := Lib.hid hst; clear hst
 have HIN := Lib.hid hin; clear hin
 have HM := Lib.hid hM; clear hM
 clear hC hk
 simp only at hsx
 simp only [CV.val, CV.cells]
 have i0 : (0 : Int) ≤ (i : Int) := by omega
 have i1 : (i : Int) < (C.clauses.length : Int) := by omega
 have i2 : (i : Int) < (ms.length : Int) := by omega
 go_enter Tryz.func87, Tryz.ntmps87
 go_upto_region 1 with (fail)
 generalize hW0 : World.alloc _ _ = W0
 obtain ⟨HB, hh0⟩ := bx1 hW0; clear hW0
 obtain ⟨k0_0, k0_1, k0_2, k0_3, k0_4, k0_5, k0_6⟩ := kc7 hh0
 clear hh0
 change Code.wp _ _ _ _ (Bl.val (⟨W0, Below.refl _ _⟩ : Bl W0))
 generalize (⟨W0, Below.refl _ _⟩ : Bl W0) = s0
 have c4 : ∀ z : Bl W0, z.val.cell? ⟨b, off + i * 16 + 4, none⟩ = some (.slice stA start.length stc) := fun z => hcell z.val (Below.step HB.out z.prop) 4 (by omega)
 have c15 : ∀ z : Bl W0, z.val.cell? ⟨b, off + i * 16 + 15, none⟩ = some (.bool wa) := fun z => hcell z.val (Below.step HB.out z.prop) 15 (by omega)
 have m0 : ∀ z : Bl W0, z.val.cell? ⟨mb, moff + i * 5, none⟩ = some (.int .i64 st) := fun z => by
  rw [(Below.step HB.out z.prop).cell (p := ⟨mb, moff + i * 5, none⟩) hmb, hmc _ (by omega)]
  exact get_flat KMark.cells 5 (fun _ => rfl) ms i 0 _ hm (by omega)
 clear hcell hmc hm
 obtain ⟨b1, HP1, hE⟩ : ∃ b, Hid (((st == 0) && (!wa)) = b) ∧ cond ((st == 0) && (!wa)) true false = b := ⟨_, rfl, (cd_self _).symm⟩
 simp only [cds] at hE
 repeat' (first | (replace hE := cd_t hE (by assumption)) | (replace hE := cd_f hE (by assumption)) | (replace hE := cd_eq hE; rcases hE with ⟨q, q', hE⟩ | ⟨q, q', hE⟩) | (replace hE := cd_any hE; rcases hE with ⟨q, hE⟩ | ⟨q, hE⟩) | fail)
 all_goals first
  | focus
   obtain rfl : b1 = false := hE.symm
   clear hE
   as_aux_lemma =>
    obtain rfl : E = false := by rw [← HE.out, ← Bool.and_assoc, HP1.out]; rfl
    go_wp2
    go_ret
    exact ⟨rfl, Below.step HB.out (Bl.prop _)⟩
  | focus
   obtain rfl : b1 = true := hE.symm
   clear hE
   as_aux_lemma =>
    go_wp2
    go_loopg [7] start.length (fun gk v7 wr => ∃ (j : Nat) (z : Bl W0), gk = start.length - j ∧ j ≤ start.length ∧ v7 = .int .i64 j ∧ wr = z.val ∧ Hid (condsHold ms (start.take j) = true))
    case atStart => exact ⟨0, _, rfl, Nat.zero_le _, rfl, rfl, rfl⟩
    case round =>
     obtain ⟨j, z, hgk, hj, rfl, rfl, hpre⟩ := hrel
     have HGK := Lib.hid hgk; clear hgk
     by_cases hlt : j < start.length
     · obtain ⟨⟨cl, is⟩, hx⟩ : ∃ x, start[j]? = some x := ⟨start[j], List.getElem?_eq_getElem hlt⟩
       obtain ⟨b2, off2, hA2, hb2, hc2⟩ := (HST.out.below (by omega) HB.out).1.form (by omega) (by omega)
       try simp only at hA2
       subst hA2
       have e0 : ∀ s : Bl W0, s.val.cell? ⟨b2, off2 + j * 2, none⟩ = some (.int .i64 cl) := fun s => s.cell (by rw [hc2 _ (by omega)]; exact get_flat KCond.cells 2 (fun _ => rfl) start j 0 _ hx (by omega))
       have e1 : ∀ s : Bl W0, s.val.cell? ⟨b2, off2 + j * 2 + 1, none⟩ = some (.int .i64 is) := fun s => s.cell (by rw [Nat.add_assoc, hc2 _ (by omega)]; exact get_flat KCond.cells 2 (fun _ => rfl) start j 1 _ hx (by omega))
       clear hc2
       obtain ⟨⟨cl0, cl1⟩, is0, is1⟩ := HIN.out _ (List.mem_of_getElem? hx)
       simp only at cl0 cl1 is0 is1
       have HHO := Lib.hid (fun s : Bl W0 => rholds_any ⟨some ⟨mb, moff, none⟩, sc⟩ ms cl is s.val (HM.out.below (by omega) (Below.step HB.out s.prop)) cl0 cl1 is0 is1)
       simp only at HHO
       clear cl0 cl1 is0 is1
       have HX := Lib.hid hx; clear hx
       have j1 : (j : Int) < (start.length : Int) := by omega
       cases q : holdsB is (statusAt ms cl) with
       | false =>
        have hch : condHolds ms ⟨cl, is⟩ = false := q
        obtain rfl : E = false := by rw [← HE.out, ← Bool.and_assoc, HP1.out, condsHold_bad HX.out hch]; rfl
        rw [q] at HHO
        clear hch
        go_wp2_with (first | (go_at_call 111; refine (lit (HHO.out _) (by assumption)).mono ?_; rintro e z ⟨rfl, hz⟩; obtain ⟨z, rfl⟩ := Bl.on hz; clear hz) | (go_at_call 111; refine (HHO.out _).mono ?_; rintro e z ⟨rfl, hz⟩; obtain ⟨z, rfl⟩ := Bl.on hz; clear hz))
        go_ret
        exact ⟨rfl, Below.step HB.out (Bl.prop _)⟩
       | true =>
        have HCH : Hid (condHolds ms ⟨cl, is⟩ = true) := q
        rw [q] at HHO
        go_wp2_with (first | (go_at_call 111; refine (lit (HHO.out _) (by assumption)).mono ?_; rintro e z ⟨rfl, hz⟩; obtain ⟨z, rfl⟩ := Bl.on hz; clear hz) | (go_at_call 111; refine (HHO.out _).mono ?_; rintro e z ⟨rfl, hz⟩; obtain ⟨z, rfl⟩ := Bl.on hz; clear hz))
        go_roundg (start.length - (j + 1))
        case measure => rw [HGK.out]; omega
        case rel => exact ⟨j + 1, _, rfl, by omega, by go_num, rfl, condsHold_snoc HX.out hpre.out HCH.out⟩
     · obtain rfl : j = start.length := by omega
       have hcs : condsHold ms start = true := by have h := hpre.out; rwa [List.take_of_length_le (Nat.le_refl _)] at h
       obtain rfl : E = true := by rw [← HE.out, ← Bool.and_assoc, HP1.out, hcs]; rfl
       clear hcs
       go_wp2
       go_ret
       exact ⟨rfl, Below.step HB.out (Bl.prop _)⟩
end Go.Proofs.YtaielhafpmjkaaaGreatDoor
