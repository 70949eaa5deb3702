/-
  Sys1; Sys2
-/
import Derived.Test.YtaielhafpmjkaaaGreatDoorQ03
import Derived.Test.YtaielhafpmjkaaaGreatDoorQ04
namespace Go.Proofs.YtaielhafpmjkaaaGreatDoor
open Go.RowKit
def okRunB (C : KCon) (ki ne pa : Int) (wa : Bool) (ml mg mb : Int) (mp : Bool) : Bool := (cond (wa || (decide (ml < 1) || (mp && (pa == -1)))) false (cond ((!(mg == 0)) && ((!(ki == 1)) || (decide (mg < 0) || decide (ne ≤ mg)))) false (cond (ki == 4) (mb == -1) (decide (0 ≤ mb) && decide (mb < C.parties)))))
set_option maxRecDepth 100000 in
set_option maxHeartbeats 4000000 in
theorem validRun_raw (v : CV) (C : KCon) (ki ro ac ne : Int) (st : SV) (sl : Nat) (af gr : Int) (bu fi : Bool) (pa re vn vd un tg : Int) (wa : Bool) (ms ml mg mb : Int) (mp : Bool) (w : World) : Calls Tryz.prog 62 #[v.val C, .agg #[.int .i64 ki, .int .i64 ro, .int .i64 ac, .int .i64 ne, .slice st.A sl st.c, .int .i64 af, .int .i64 gr, .bool bu, .bool fi, .int .i64 pa, .int .i64 re, .int .i64 vn, .int .i64 vd, .int .i64 un, .int .i64 tg, .bool wa], .agg #[.int .i64 ms, .int .i64 ml, .int .i64 mg, .int .i64 mb, .bool mp]] w (RetB (.bool (okRunB C ki ne pa wa ml mg mb mp)) w) := by
 unfold CV.val CV.cells
 generalize hE : okRunB C ki ne pa wa ml mg mb mp = E
 go_enter Tryz.func62, Tryz.ntmps62
 go_upto_region 1 with (fail)
 generalize hW0 : World.alloc _ _ = W0
 obtain ⟨HB, hh0, hh1, hh2⟩ := bx3 hW0
 clear hW0
 obtain ⟨k0_0, k0_1, k0_2, k0_3, k0_4, k0_5, k0_6⟩ := kc7 hh0
 clear hh0
 obtain ⟨k1_0, k1_1, k1_2, k1_3, k1_4, k1_5, k1_6, k1_7, k1_8, k1_9, k1_10, k1_11, k1_12, k1_13, k1_14, k1_15⟩ := kc16 hh1
 clear hh1
 obtain ⟨k2_0, k2_1, k2_2, k2_3, k2_4⟩ := kc5 hh2
 clear hh2
 change Code.wp _ _ _ _ (Bl.val (⟨W0, Below.refl _ _⟩ : Bl W0))
 generalize (⟨W0, Below.refl _ _⟩ : Bl W0) = s0
 focus
  cases q1 : wa
  focus
   cases q2 : decide (ml < 1)
   focus
    cases q3 : mp
    focus
     cases q4 : (mg == 0)
     focus
      have q4_0 : (mg != 0) = true := by simpa using q4
      cases q5 : (ki == 1)
      focus
       have q5_0 : (ki != 1) = true := by simpa using q5
       obtain rfl : E = false := by rw [← hE]; unfold okRunB; rw [q1, q2, q3, q4, q5]; rfl
       clear hE
      rotate_left
      focus
       have q5_0 : (ki != 1) = false := by simpa using q5
       cases q6 : decide (mg < 0)
       focus
        cases q7 : decide (ne ≤ mg)
        focus
         cases q8 : (ki == 4)
         focus
          have q8_0 : (ki != 4) = true := by simpa using q8
          cases q9 : decide (0 ≤ mb)
          focus
           obtain rfl : E = false := by rw [← hE]; unfold okRunB; rw [q1, q2, q3, q4, q5, q6, q7, q8, q9]; rfl
           clear hE
          rotate_left
          focus
           cases q10 : decide (mb < C.parties)
           focus
            obtain rfl : E = false := by rw [← hE]; unfold okRunB; rw [q1, q2, q3, q4, q5, q6, q7, q8, q9, q10]; rfl
            clear hE
           rotate_left
           focus
            obtain rfl : E = true := by rw [← hE]; unfold okRunB; rw [q1, q2, q3, q4, q5, q6, q7, q8, q9, q10]; rfl
            clear hE
         rotate_left 3
         focus
          have q8_0 : (ki != 4) = false := by simpa using q8
          cases q9 : (mb == -1)
          focus
           have q9_0 : (mb != -1) = true := by simpa using q9
           obtain rfl : E = false := by rw [← hE]; unfold okRunB; rw [q1, q2, q3, q4, q5, q6, q7, q8, q9]; rfl
           clear hE
          rotate_left
          focus
           have q9_0 : (mb != -1) = false := by simpa using q9
           obtain rfl : E = true := by rw [← hE]; unfold okRunB; rw [q1, q2, q3, q4, q5, q6, q7, q8, q9]; rfl
           clear hE
        rotate_left 5
        focus
         obtain rfl : E = false := by rw [← hE]; unfold okRunB; rw [q1, q2, q3, q4, q5, q6, q7]; rfl
         clear hE
       rotate_left 6
       focus
        obtain rfl : E = false := by rw [← hE]; unfold okRunB; rw [q1, q2, q3, q4, q5, q6]; rfl
        clear hE
     rotate_left 8
     focus
      have q4_0 : (mg != 0) = false := by simpa using q4
      cases q5 : (ki == 4)
      focus
       have q5_0 : (ki != 4) = true := by simpa using q5
       cases q6 : decide (0 ≤ mb)
       focus
        obtain rfl : E = false := by rw [← hE]; unfold okRunB; rw [q1, q2, q3, q4, q5, q6]; rfl
        clear hE
       rotate_left
       focus
        cases q7 : decide (mb < C.parties)
        focus
         obtain rfl : E = false := by rw [← hE]; unfold okRunB; rw [q1, q2, q3, q4, q5, q6, q7]; rfl
         clear hE
        rotate_left
        focus
         obtain rfl : E = true := by rw [← hE]; unfold okRunB; rw [q1, q2, q3, q4, q5, q6, q7]; rfl
         clear hE
      rotate_left 3
      focus
       have q5_0 : (ki != 4) = false := by simpa using q5
       cases q6 : (mb == -1)
       focus
        have q6_0 : (mb != -1) = true := by simpa using q6
        obtain rfl : E = false := by rw [← hE]; unfold okRunB; rw [q1, q2, q3, q4, q5, q6]; rfl
        clear hE
       rotate_left
       focus
        have q6_0 : (mb != -1) = false := by simpa using q6
        obtain rfl : E = true := by rw [← hE]; unfold okRunB; rw [q1, q2, q3, q4, q5, q6]; rfl
        clear hE
    rotate_left 13
    focus
     cases q4 : (pa == -1)
     focus
      have q4_0 : (pa != -1) = true := by simpa using q4
      cases q5 : (mg == 0)
      focus
       have q5_0 : (mg != 0) = true := by simpa using q5
       cases q6 : (ki == 1)
       focus
        have q6_0 : (ki != 1) = true := by simpa using q6
        obtain rfl : E = false := by rw [← hE]; unfold okRunB; rw [q1, q2, q3, q4, q5, q6]; rfl
        clear hE
       rotate_left
       focus
        have q6_0 : (ki != 1) = false := by simpa using q6
        cases q7 : decide (mg < 0)
        focus
         cases q8 : decide (ne ≤ mg)
         focus
          cases q9 : (ki == 4)
          focus
           have q9_0 : (ki != 4) = true := by simpa using q9
           cases q10 : decide (0 ≤ mb)
           focus
            obtain rfl : E = false := by rw [← hE]; unfold okRunB; rw [q1, q2, q3, q4, q5, q6, q7, q8, q9, q10]; rfl
            clear hE
           rotate_left
           focus
            cases q11 : decide (mb < C.parties)
            focus
             obtain rfl : E = false := by rw [← hE]; unfold okRunB; rw [q1, q2, q3, q4, q5, q6, q7, q8, q9, q10, q11]; rfl
             clear hE
            rotate_left
            focus
             obtain rfl : E = true := by rw [← hE]; unfold okRunB; rw [q1, q2, q3, q4, q5, q6, q7, q8, q9, q10, q11]; rfl
             clear hE
          rotate_left 3
          focus
           have q9_0 : (ki != 4) = false := by simpa using q9
           cases q10 : (mb == -1)
           focus
            have q10_0 : (mb != -1) = true := by simpa using q10
            obtain rfl : E = false := by rw [← hE]; unfold okRunB; rw [q1, q2, q3, q4, q5, q6, q7, q8, q9, q10]; rfl
            clear hE
           rotate_left
           focus
            have q10_0 : (mb != -1) = false := by simpa using q10
            obtain rfl : E = true := by rw [← hE]; unfold okRunB; rw [q1, q2, q3, q4, q5, q6, q7, q8, q9, q10]; rfl
            clear hE
         rotate_left 5
         focus
          obtain rfl : E = false := by rw [← hE]; unfold okRunB; rw [q1, q2, q3, q4, q5, q6, q7, q8]; rfl
          clear hE
        rotate_left 6
        focus
         obtain rfl : E = false := by rw [← hE]; unfold okRunB; rw [q1, q2, q3, q4, q5, q6, q7]; rfl
         clear hE
      rotate_left 8
      focus
       have q5_0 : (mg != 0) = false := by simpa using q5
       cases q6 : (ki == 4)
       focus
        have q6_0 : (ki != 4) = true := by simpa using q6
        cases q7 : decide (0 ≤ mb)
        focus
         obtain rfl : E = false := by rw [← hE]; unfold okRunB; rw [q1, q2, q3, q4, q5, q6, q7]; rfl
         clear hE
        rotate_left
        focus
         cases q8 : decide (mb < C.parties)
         focus
          obtain rfl : E = false := by rw [← hE]; unfold okRunB; rw [q1, q2, q3, q4, q5, q6, q7, q8]; rfl
          clear hE
         rotate_left
         focus
          obtain rfl : E = true := by rw [← hE]; unfold okRunB; rw [q1, q2, q3, q4, q5, q6, q7, q8]; rfl
          clear hE
       rotate_left 3
       focus
        have q6_0 : (ki != 4) = false := by simpa using q6
        cases q7 : (mb == -1)
        focus
         have q7_0 : (mb != -1) = true := by simpa using q7
         obtain rfl : E = false := by rw [← hE]; unfold okRunB; rw [q1, q2, q3, q4, q5, q6, q7]; rfl
         clear hE
        rotate_left
        focus
         have q7_0 : (mb != -1) = false := by simpa using q7
         obtain rfl : E = true := by rw [← hE]; unfold okRunB; rw [q1, q2, q3, q4, q5, q6, q7]; rfl
         clear hE
     rotate_left 13
     focus
      have q4_0 : (pa != -1) = false := by simpa using q4
      obtain rfl : E = false := by rw [← hE]; unfold okRunB; rw [q1, q2, q3, q4]; rfl
      clear hE
   rotate_left 27
   focus
    obtain rfl : E = false := by rw [← hE]; unfold okRunB; rw [q1, q2]; rfl
    clear hE
  rotate_left 28
  focus
   obtain rfl : E = false := by rw [← hE]; unfold okRunB; rw [q1]; rfl
   clear hE
  all_goals
   go_wp2_with (first | fail)
   first
    | (go_ret; exact ⟨rfl, Below.step HB.out (Bl.prop _)⟩)
    | (refine wp_region_bl (by kernel_rfl) (by kernel_rfl) ?_; (repeat (go_big_quiet_step ((first | fail)))); refine wpQuiet_nil ?_; rintro _ ⟨zq, rfl⟩; go_wp2_with (first | fail); go_ret; exact ⟨rfl, Below.step HB.out (Bl.prop _)⟩)
def mark0B (ms ml mg mb : Int) (mp : Bool) : Bool := (ms == 0) && ((ml == 0) && ((mg == 0) && ((mb == -1) && !mp)))
theorem run_eql_mark0 (w : World) (ms ml mg mb : Int) (mp : Bool) : (binOp .eql 57 (.agg #[.int .i64 ms, .int .i64 ml, .int .i64 mg, .int .i64 mb, .bool mp]) (.agg #[.int .i64 0, .int .i64 0, .int .i64 0, .int .i64 (-1), .bool false])).run Tryz.prog w = .ok (.bool (mark0B ms ml mg mb mp)) w := by
 rw [run_eql_struct]
 go_simp
 unfold mark0B
 by_cases h1 : ms = 0 <;> by_cases h2 : ml = 0 <;> by_cases h3 : mg = 0 <;> by_cases h4 : mb = -1 <;> cases mp <;> simp [h1, h2, h3, h4]
def okMarkB (C : KCon) (ki ne af gr pa : Int) (wa : Bool) (ms ml mg mb : Int) (mp : Bool) : Bool := (cond (ms == 0) ((!wa) && (mark0B ms ml mg mb mp)) (cond (ms == 1) (decide (ml ≤ af) && (okRunB C ki ne pa wa ml mg mb mp)) (cond (ms == 2) ((ki == 1) && (decide (ml ≤ gr) && (okRunB C ki ne pa wa ml mg mb mp))) (cond ((ms == 3) || ((ms == 4) || (ms == 5))) ((ml == 0) && (decide (0 ≤ mg) && (decide (mg ≤ 9) && (decide (-1 ≤ mb) && (decide (mb < C.parties) && (!mp)))))) false))))
def KCon.okMark (C : KCon) (k : KClause) (m : KMark) : Bool := okMarkB C k.kind k.need k.after k.grace k.pause k.waived m.status m.left m.got m.bearer m.paused
set_option maxRecDepth 100000 in
set_option maxHeartbeats 4000000 in
theorem validMark_any (v : CV) (C : KCon) (i : Nat) (k : KClause) (m : KMark) (w : World) (hC : ConAt w v C) (hk : C.clauses[i]? = some k) : Calls Tryz.prog 45 #[v.val C, .int .i64 i, .agg #[.int .i64 m.status, .int .i64 m.left, .int .i64 m.got, .int .i64 m.bearer, .bool m.paused]] w (RetB (.bool (C.okMark k m)) w) := by
 have hil : i < C.clauses.length := (List.getElem?_eq_some_iff.1 hk).1
 obtain ⟨b, off, ⟨stA, stc⟩, hA0, hb, hcell, hst⟩ := hC.clause hk
 obtain ⟨⟨hA, hcp⟩, ⟨uA, ucp⟩, ⟨aA, acp⟩, ⟨kA, kcp⟩, ⟨oA, ocp⟩⟩ := v
 simp only at hA0
 subst hA0
 obtain ⟨ki, ro, ac, ne, start, af, gr, bu, fi, pa, re, ⟨vn, vd⟩, un, tg, wa⟩ := k
 obtain ⟨ms, ml, mg, mb, mp⟩ := m
 generalize hE : C.okMark ⟨ki, ro, ac, ne, start, af, gr, bu, fi, pa, re, ⟨vn, vd⟩, un, tg, wa⟩ ⟨ms, ml, mg, mb, mp⟩ = E
 simp only [KCon.okMark] at hE
 have HE := Lib.hid hE; clear hE
 clear hC hst hk
 simp only [CV.val, CV.cells]
 have heq := fun (w : World) => run_eql_mark0 w ms ml mg mb mp
 have i0 : (0 : Int) ≤ (i : Int) := by omega
 have i1 : (i : Int) < (C.clauses.length : Int) := by omega
 obtain ⟨c0, c1, c2, c3, c4, c5, c6, c7, c8, c9, c10, c11, c12, c13, c14, c15⟩ := rw16 (hcell w (Below.refl _ _)) rfl
 clear hcell
 have hrn : ∀ W : World, Calls Tryz.prog 62 #[.agg #[.int .i64 C.parties, .slice hA C.holders.length hcp, .slice uA C.units.length ucp, .slice aA C.acts.length acp, .slice (some ⟨b, off, none⟩) C.clauses.length kcp, .int .i64 C.days, .slice oA C.off.length ocp], .agg #[.int .i64 ki, .int .i64 ro, .int .i64 ac, .int .i64 ne, .slice stA start.length stc, .int .i64 af, .int .i64 gr, .bool bu, .bool fi, .int .i64 pa, .int .i64 re, .int .i64 vn, .int .i64 vd, .int .i64 un, .int .i64 tg, .bool wa], .agg #[.int .i64 ms, .int .i64 ml, .int .i64 mg, .int .i64 mb, .bool mp]] W (RetB (.bool (okRunB C ki ne pa wa ml mg mb mp)) W) := fun W => validRun_raw (⟨⟨hA, hcp⟩, ⟨uA, ucp⟩, ⟨aA, acp⟩, ⟨some ⟨b, off, none⟩, kcp⟩, ⟨oA, ocp⟩⟩ : CV) C ki ro ac ne ⟨stA, stc⟩ start.length af gr bu fi pa re vn vd un tg wa ms ml mg mb mp W
 have HRN := Lib.hid hrn; clear hrn
 go_enter Tryz.func45, Tryz.ntmps45
 go_upto_region 2 with (fail)
 generalize hW0 : World.alloc _ _ = W0
 obtain ⟨HB, hh0, hh1, hh2⟩ := bx3 hW0
 clear hW0
 obtain ⟨k0_0, k0_1, k0_2, k0_3, k0_4, k0_5, k0_6⟩ := kc7 hh0
 clear hh0
 obtain ⟨k1_0, k1_1, k1_2, k1_3, k1_4⟩ := kc5 hh1
 clear hh1
 obtain ⟨k2_0, k2_1, k2_2, k2_3, k2_4, k2_5, k2_6, k2_7, k2_8, k2_9, k2_10, k2_11, k2_12, k2_13, k2_14, k2_15⟩ := kc16 hh2
 clear hh2
 change Code.wp _ _ _ _ (Bl.val (⟨W0, Below.refl _ _⟩ : Bl W0))
 generalize (⟨W0, Below.refl _ _⟩ : Bl W0) = s0
 clear c0 c1 c2 c3 c4 c5 c6 c7 c8 c9 c10 c11 c12 c13 c14 c15
 focus
  cases q1 : (ms == 0)
  focus
   have q1_0 : (ms != 0) = true := by simpa using q1
   cases q2 : (ms == 1)
   focus
    have q2_0 : (ms != 1) = true := by simpa using q2
    cases q3 : (ms == 2)
    focus
     have q3_0 : (ms != 2) = true := by simpa using q3
     cases q4 : (ms == 3)
     focus
      have q4_0 : (ms != 3) = true := by simpa using q4
      cases q5 : (ms == 4)
      focus
       have q5_0 : (ms != 4) = true := by simpa using q5
       cases q6 : (ms == 5)
       focus
        have q6_0 : (ms != 5) = true := by simpa using q6
        have hP : okMarkB C ki ne af gr pa wa ms ml mg mb mp = false := by unfold okMarkB; rw [q1, q2, q3, q4, q5, q6]; rfl
        obtain rfl : E = false := by rw [← HE.out, hP]
        clear hP
       rotate_left
       focus
        have q6_0 : (ms != 5) = false := by simpa using q6
        cases q7 : (ml == 0)
        focus
         have q7_0 : (ml != 0) = true := by simpa using q7
         have hP : okMarkB C ki ne af gr pa wa ms ml mg mb mp = false := by unfold okMarkB; rw [q1, q2, q3, q4, q5, q6, q7]; rfl
         obtain rfl : E = false := by rw [← HE.out, hP]
         clear hP
        rotate_left
        focus
         have q7_0 : (ml != 0) = false := by simpa using q7
         cases q8 : decide (0 ≤ mg)
         focus
          have hP : okMarkB C ki ne af gr pa wa ms ml mg mb mp = false := by unfold okMarkB; rw [q1, q2, q3, q4, q5, q6, q7, q8]; rfl
          obtain rfl : E = false := by rw [← HE.out, hP]
          clear hP
         rotate_left
         focus
          cases q9 : decide (mg ≤ 9)
          focus
           have hP : okMarkB C ki ne af gr pa wa ms ml mg mb mp = false := by unfold okMarkB; rw [q1, q2, q3, q4, q5, q6, q7, q8, q9]; rfl
           obtain rfl : E = false := by rw [← HE.out, hP]
           clear hP
          rotate_left
          focus
           cases q10 : decide (-1 ≤ mb)
           focus
            have hP : okMarkB C ki ne af gr pa wa ms ml mg mb mp = false := by unfold okMarkB; rw [q1, q2, q3, q4, q5, q6, q7, q8, q9, q10]; rfl
            obtain rfl : E = false := by rw [← HE.out, hP]
            clear hP
           rotate_left
           focus
            cases q11 : decide (mb < C.parties)
            focus
             have hP : okMarkB C ki ne af gr pa wa ms ml mg mb mp = false := by unfold okMarkB; rw [q1, q2, q3, q4, q5, q6, q7, q8, q9, q10, q11]; rfl
             obtain rfl : E = false := by rw [← HE.out, hP]
             clear hP
            rotate_left
            focus
             cases q12 : mp
             focus
              have hP : okMarkB C ki ne af gr pa wa ms ml mg mb mp = true := by unfold okMarkB; rw [q1, q2, q3, q4, q5, q6, q7, q8, q9, q10, q11, q12]; rfl
              obtain rfl : E = true := by rw [← HE.out, hP]
              clear hP
             rotate_left
             focus
              have hP : okMarkB C ki ne af gr pa wa ms ml mg mb mp = false := by unfold okMarkB; rw [q1, q2, q3, q4, q5, q6, q7, q8, q9, q10, q11, q12]; rfl
              obtain rfl : E = false := by rw [← HE.out, hP]
              clear hP
      rotate_left 8
      focus
       have q5_0 : (ms != 4) = false := by simpa using q5
       cases q6 : (ml == 0)
       focus
        have q6_0 : (ml != 0) = true := by simpa using q6
        have hP : okMarkB C ki ne af gr pa wa ms ml mg mb mp = false := by unfold okMarkB; rw [q1, q2, q3, q4, q5, q6]; rfl
        obtain rfl : E = false := by rw [← HE.out, hP]
        clear hP
       rotate_left
       focus
        have q6_0 : (ml != 0) = false := by simpa using q6
        cases q7 : decide (0 ≤ mg)
        focus
         have hP : okMarkB C ki ne af gr pa wa ms ml mg mb mp = false := by unfold okMarkB; rw [q1, q2, q3, q4, q5, q6, q7]; rfl
         obtain rfl : E = false := by rw [← HE.out, hP]
         clear hP
        rotate_left
        focus
         cases q8 : decide (mg ≤ 9)
         focus
          have hP : okMarkB C ki ne af gr pa wa ms ml mg mb mp = false := by unfold okMarkB; rw [q1, q2, q3, q4, q5, q6, q7, q8]; rfl
          obtain rfl : E = false := by rw [← HE.out, hP]
          clear hP
         rotate_left
         focus
          cases q9 : decide (-1 ≤ mb)
          focus
           have hP : okMarkB C ki ne af gr pa wa ms ml mg mb mp = false := by unfold okMarkB; rw [q1, q2, q3, q4, q5, q6, q7, q8, q9]; rfl
           obtain rfl : E = false := by rw [← HE.out, hP]
           clear hP
          rotate_left
          focus
           cases q10 : decide (mb < C.parties)
           focus
            have hP : okMarkB C ki ne af gr pa wa ms ml mg mb mp = false := by unfold okMarkB; rw [q1, q2, q3, q4, q5, q6, q7, q8, q9, q10]; rfl
            obtain rfl : E = false := by rw [← HE.out, hP]
            clear hP
           rotate_left
           focus
            cases q11 : mp
            focus
             have hP : okMarkB C ki ne af gr pa wa ms ml mg mb mp = true := by unfold okMarkB; rw [q1, q2, q3, q4, q5, q6, q7, q8, q9, q10, q11]; rfl
             obtain rfl : E = true := by rw [← HE.out, hP]
             clear hP
            rotate_left
            focus
             have hP : okMarkB C ki ne af gr pa wa ms ml mg mb mp = false := by unfold okMarkB; rw [q1, q2, q3, q4, q5, q6, q7, q8, q9, q10, q11]; rfl
             obtain rfl : E = false := by rw [← HE.out, hP]
             clear hP
     rotate_left 15
     focus
      have q4_0 : (ms != 3) = false := by simpa using q4
      cases q5 : (ml == 0)
      focus
       have q5_0 : (ml != 0) = true := by simpa using q5
       have hP : okMarkB C ki ne af gr pa wa ms ml mg mb mp = false := by unfold okMarkB; rw [q1, q2, q3, q4, q5]; rfl
       obtain rfl : E = false := by rw [← HE.out, hP]
       clear hP
      rotate_left
      focus
       have q5_0 : (ml != 0) = false := by simpa using q5
       cases q6 : decide (0 ≤ mg)
       focus
        have hP : okMarkB C ki ne af gr pa wa ms ml mg mb mp = false := by unfold okMarkB; rw [q1, q2, q3, q4, q5, q6]; rfl
        obtain rfl : E = false := by rw [← HE.out, hP]
        clear hP
       rotate_left
       focus
        cases q7 : decide (mg ≤ 9)
        focus
         have hP : okMarkB C ki ne af gr pa wa ms ml mg mb mp = false := by unfold okMarkB; rw [q1, q2, q3, q4, q5, q6, q7]; rfl
         obtain rfl : E = false := by rw [← HE.out, hP]
         clear hP
        rotate_left
        focus
         cases q8 : decide (-1 ≤ mb)
         focus
          have hP : okMarkB C ki ne af gr pa wa ms ml mg mb mp = false := by unfold okMarkB; rw [q1, q2, q3, q4, q5, q6, q7, q8]; rfl
          obtain rfl : E = false := by rw [← HE.out, hP]
          clear hP
         rotate_left
         focus
          cases q9 : decide (mb < C.parties)
          focus
           have hP : okMarkB C ki ne af gr pa wa ms ml mg mb mp = false := by unfold okMarkB; rw [q1, q2, q3, q4, q5, q6, q7, q8, q9]; rfl
           obtain rfl : E = false := by rw [← HE.out, hP]
           clear hP
          rotate_left
          focus
           cases q10 : mp
           focus
            have hP : okMarkB C ki ne af gr pa wa ms ml mg mb mp = true := by unfold okMarkB; rw [q1, q2, q3, q4, q5, q6, q7, q8, q9, q10]; rfl
            obtain rfl : E = true := by rw [← HE.out, hP]
            clear hP
           rotate_left
           focus
            have hP : okMarkB C ki ne af gr pa wa ms ml mg mb mp = false := by unfold okMarkB; rw [q1, q2, q3, q4, q5, q6, q7, q8, q9, q10]; rfl
            obtain rfl : E = false := by rw [← HE.out, hP]
            clear hP
    rotate_left 22
    focus
     have q3_0 : (ms != 2) = false := by simpa using q3
     cases q4 : (ki == 1)
     focus
      have q4_0 : (ki != 1) = true := by simpa using q4
      have hP : okMarkB C ki ne af gr pa wa ms ml mg mb mp = false := by unfold okMarkB; rw [q1, q2, q3, q4]; rfl
      obtain rfl : E = false := by rw [← HE.out, hP]
      clear hP
     rotate_left
     focus
      have q4_0 : (ki != 1) = false := by simpa using q4
      cases q5 : decide (ml ≤ gr)
      focus
       have hP : okMarkB C ki ne af gr pa wa ms ml mg mb mp = false := by unfold okMarkB; rw [q1, q2, q3, q4, q5]; rfl
       obtain rfl : E = false := by rw [← HE.out, hP]
       clear hP
      rotate_left
      focus
       cases q6 : (okRunB C ki ne pa wa ml mg mb mp)
       focus
        have hP : okMarkB C ki ne af gr pa wa ms ml mg mb mp = false := by unfold okMarkB; rw [q1, q2, q3, q4, q5, q6]; rfl
        obtain rfl : E = false := by rw [← HE.out, hP]
        clear hP
       rotate_left
       focus
        have hP : okMarkB C ki ne af gr pa wa ms ml mg mb mp = true := by unfold okMarkB; rw [q1, q2, q3, q4, q5, q6]; rfl
        obtain rfl : E = true := by rw [← HE.out, hP]
        clear hP
   rotate_left 26
   focus
    have q2_0 : (ms != 1) = false := by simpa using q2
    cases q3 : decide (ml ≤ af)
    focus
     have hP : okMarkB C ki ne af gr pa wa ms ml mg mb mp = false := by unfold okMarkB; rw [q1, q2, q3]; rfl
     obtain rfl : E = false := by rw [← HE.out, hP]
     clear hP
    rotate_left
    focus
     cases q4 : (okRunB C ki ne pa wa ml mg mb mp)
     focus
      have hP : okMarkB C ki ne af gr pa wa ms ml mg mb mp = false := by unfold okMarkB; rw [q1, q2, q3, q4]; rfl
      obtain rfl : E = false := by rw [← HE.out, hP]
      clear hP
     rotate_left
     focus
      have hP : okMarkB C ki ne af gr pa wa ms ml mg mb mp = true := by unfold okMarkB; rw [q1, q2, q3, q4]; rfl
      obtain rfl : E = true := by rw [← HE.out, hP]
      clear hP
  rotate_left 29
  focus
   have q1_0 : (ms != 0) = false := by simpa using q1
   cases q2 : wa
   focus
    cases q3 : (mark0B ms ml mg mb mp)
    focus
     have hP : okMarkB C ki ne af gr pa wa ms ml mg mb mp = false := by unfold okMarkB; rw [q1, q2, q3]; rfl
     obtain rfl : E = false := by rw [← HE.out, hP]
     clear hP
    rotate_left
    focus
     have hP : okMarkB C ki ne af gr pa wa ms ml mg mb mp = true := by unfold okMarkB; rw [q1, q2, q3]; rfl
     obtain rfl : E = true := by rw [← HE.out, hP]
     clear hP
   rotate_left 2
   focus
    have hP : okMarkB C ki ne af gr pa wa ms ml mg mb mp = false := by unfold okMarkB; rw [q1, q2]; rfl
    obtain rfl : E = false := by rw [← HE.out, hP]
    clear hP
  all_goals
   go_wp2_with (first | (go_at_call 62; refine (HRN.out _).mono ?_; rintro e z ⟨rfl, hz⟩; obtain ⟨z, rfl⟩ := Bl.on hz; clear hz))
   first
    | (go_ret; exact ⟨rfl, Below.step HB.out (Bl.prop _)⟩)
    | (refine wp_region_bl (by kernel_rfl) (by kernel_rfl) ?_; (repeat (go_big_quiet_step ((first | (go_at_call 62; exact Calls.bl_of (HRN.out _)))))); refine wpQuiet_nil ?_; rintro _ ⟨zq, rfl⟩; go_wp2_with (first | (go_at_call 62; refine (HRN.out _).mono ?_; rintro e z ⟨rfl, hz⟩; obtain ⟨z, rfl⟩ := Bl.on hz; clear hz)); go_ret; exact ⟨rfl, Below.step HB.out (Bl.prop _)⟩)
end Go.Proofs.YtaielhafpmjkaaaGreatDoor
namespace Go.Proofs.YtaielhafpmjkaaaGreatDoor
open Go.RowKit
def holdsB (is x : Int) : Bool := (cond (is == 1) (!(x == 0)) (cond (is == 2) (x == 3) (cond (is == 3) (x == 4) (cond (is == 4) (x == 5) false))))
def statusAt (ms : List KMark) (x : Int) : Int := ((ms[x.toNat]?).map (·.status)).getD 0
def condHolds (ms : List KMark) (c : KCond) : Bool := holdsB c.is (statusAt ms c.clause)
def condsHold (ms : List KMark) (l : List KCond) : Bool := l.all (condHolds ms)
def readyK (ms : List KMark) (k : KClause) (m : KMark) : Bool := (m.status == 0) && ((!k.waived) && condsHold ms k.start)
theorem condsHold_snoc {ms : List KMark} {l : List KCond} {j : Nat} {x : KCond} (hx : l[j]? = some x) (h : condsHold ms (l.take j) = true) (h2 : condHolds ms x = true) : condsHold ms (l.take (j + 1)) = true := by
 obtain ⟨hj, rfl⟩ := List.getElem?_eq_some_iff.1 hx
 unfold condsHold at *
 rw [List.take_succ_eq_append_getElem hj, List.all_append, h]
 simpa using h2
theorem condsHold_bad {ms : List KMark} {l : List KCond} {j : Nat} {x : KCond} (hx : l[j]? = some x) (h2 : condHolds ms x = false) : condsHold ms l = false := by
 cases e : condsHold ms l with
 | false => rfl
 | true =>
  unfold condsHold at e
  rw [List.all_eq_true.1 e x (List.mem_of_getElem? hx)] at h2
  cases h2
theorem StateAt.mark {w : World} {v : TV} {s : KState} (h : StateAt w v s) {i : Nat} {m : KMark} (hm : s.marks[i]? = some m) :
 ∃ b off, v.m.A = some ⟨b, off, none⟩ ∧ b < w.heap.size ∧ ∀ (i : Nat) (m : KMark), s.marks[i]? = some m → ∀ W, Below w.heap.size w W → ∀ j, j < 5 → W.cell? ⟨b, off + i * 5 + j, none⟩ = m.cells[j]? := by
 have hi : i < s.marks.length := (List.getElem?_eq_some_iff.1 hm).1
 obtain ⟨b, off, hA, hb, hc⟩ := h.marks.1.form (by omega) (by omega)
 refine ⟨b, off, hA, hb, fun i m hm W hW j hj => ?_⟩
 have hi : i < s.marks.length := (List.getElem?_eq_some_iff.1 hm).1
 rw [hW.cell (p := ⟨b, off + i * 5 + j, none⟩) hb, Nat.add_assoc, hc _ (by omega)]
 exact get_flat _ 5 (fun _ => rfl) s.marks i j m hm hj
set_option maxRecDepth 100000 in
set_option maxHeartbeats 4000000 in
theorem ready_any (v : CV) (C : KCon) (tv : TV) (s : KState) (i : Nat) (k : KClause) (m : KMark) (w : World) (hC : ConAt w v C) (hS : StateAt w tv s) (hk : C.clauses[i]? = some k) (hm : s.marks[i]? = some m) (hin : ∀ c ∈ k.start, 0 ≤ c.clause ∧ c.clause < s.marks.length) :
 Calls Tryz.prog 46 #[v.val C, tv.val s, .int .i64 i] w (RetB (.bool (readyK s.marks k m)) w) := by
 have hil : i < C.clauses.length := (List.getElem?_eq_some_iff.1 hk).1
 have him : i < s.marks.length := (List.getElem?_eq_some_iff.1 hm).1
 obtain ⟨b, off, ⟨stA, stc⟩, hA0, hb, hcell, hst⟩ := hC.clause hk
 obtain ⟨mb, moff, hM0, hmb, hmc⟩ := hS.mark hm
 obtain ⟨⟨hA, hcp⟩, ⟨uA, ucp⟩, ⟨aA, acp⟩, ⟨kA, kcp⟩, ⟨oA, ocp⟩⟩ := v
 obtain ⟨⟨shA, shc⟩, ⟨suA, suc⟩, ⟨smA, smc⟩⟩ := tv
 simp only at hA0 hM0
 subst hA0 hM0
 have hmx : s.marks.length ≤ 9223372036854775807 := by have h1 := hS.marks.2.2.1; have h2 := hS.marks.2.2.2; unfold maxLen at h2; omega
 have hsx : k.start.length ≤ 9223372036854775807 := by have h1 := hst.2.2.1; have h2 := hst.2.2.2; unfold maxLen at h2; omega
 obtain ⟨ki, ro, ac, ne, start, af, gr, bu, fi, pa, re, ⟨vn, vd⟩, un, tg, wa⟩ := k
 generalize hE : readyK s.marks ⟨ki, ro, ac, ne, start, af, gr, bu, fi, pa, re, ⟨vn, vd⟩, un, tg, wa⟩ m = E
 simp only [readyK] at hE
 have HE := Lib.hid hE; clear hE
 have HST := Lib.hid hst; clear hst
 have HIN := Lib.hid hin; clear hin
 clear hC hS
 simp only [CV.val, CV.cells, TV.val, TV.cells, KState.cells]
 have i0 : (0 : Int) ≤ (i : Int) := by omega
 have i1 : (i : Int) < (C.clauses.length : Int) := by omega
 have i2 : (i : Int) < (s.marks.length : Int) := by omega
 simp only at hsx
 go_enter Tryz.func46, Tryz.ntmps46
 go_upto_region 1 with (fail)
 generalize hW0 : World.alloc _ _ = W0
 obtain ⟨HB, hh0, hh1⟩ := bx2 hW0
 have HW0 := Lib.hid hW0.symm
 clear hW0
 obtain ⟨k0_0, k0_1, k0_2, k0_3, k0_4, k0_5, k0_6⟩ := kc7 hh0
 clear hh0
 obtain ⟨k1_0, k1_1, k1_2, k1_3⟩ := kc4 hh1
 clear hh1
 change Code.wp _ _ _ _ (Bl.val (⟨W0, Below.refl _ _⟩ : Bl W0))
 generalize (⟨W0, Below.refl _ _⟩ : Bl W0) = s0
 have c4 : ∀ z : Bl W0, z.val.cell? ⟨b, off + i * 16 + 4, none⟩ = some (.slice stA start.length stc) := fun z => hcell z.val (Below.step HB.out z.prop) 4 (by omega)
 have c15 : ∀ z : Bl W0, z.val.cell? ⟨b, off + i * 16 + 15, none⟩ = some (.bool wa) := fun z => hcell z.val (Below.step HB.out z.prop) 15 (by omega)
 have m0 : ∀ z : Bl W0, z.val.cell? ⟨mb, moff + i * 5, none⟩ = some (.int .i64 m.status) := fun z => hmc i m hm z.val (Below.step HB.out z.prop) 0 (by omega)
 have HMC : Hid (∀ (x : Int) (z : Bl W0), 0 ≤ x → x < (s.marks.length : Int) → z.val.cell? ⟨mb, moff + x.toNat * 5, none⟩ = some (.int .i64 (statusAt s.marks x))) := fun x z h0 h1 => by
  obtain ⟨a, ha⟩ : ∃ a, s.marks[x.toNat]? = some a := ⟨s.marks[x.toNat]'(by omega), List.getElem?_eq_getElem _⟩
  have h := hmc x.toNat a ha z.val (Below.step HB.out z.prop) 0 (by omega)
  rw [Nat.add_zero] at h
  rw [h]
  simp [KMark.cells, statusAt, ha]
 clear hcell hmc
 have HK := Lib.hid hk; clear hk
 have HM := Lib.hid hm; clear hm
 cases q1 : (m.status == 0) with
 | false =>
  have q1b : (m.status != 0) = true := by simpa using q1
  obtain rfl : E = false := by rw [← HE.out, q1]; rfl
  go_wp2
  go_ret
  exact ⟨rfl, Below.step HB.out (Bl.prop _)⟩
 | true =>
  have q1b : (m.status != 0) = false := by simpa using q1
  cases wa with
  | true =>
   obtain rfl : E = false := by rw [← HE.out, q1]; rfl
   go_wp2
   go_ret
   exact ⟨rfl, Below.step HB.out (Bl.prop _)⟩
  | false =>
   have HQ1 := Lib.hid q1
   go_wp2
   go_loopg [33] start.length (fun gk v33 wr => ∃ (j : Nat) (z : Bl W0), gk = start.length - j ∧ j ≤ start.length ∧ v33 = .int .i64 j ∧ wr = z.val ∧ Hid (condsHold s.marks (start.take j) = true))
   case atStart => exact ⟨0, _, rfl, Nat.zero_le _, rfl, rfl, rfl⟩
   case round =>
    obtain ⟨j, z, hgk, hj, rfl, rfl, hpre⟩ := hrel
    have HGK := Lib.hid hgk; clear hgk
    by_cases hlt : j < start.length
    · obtain ⟨⟨cl, is⟩, hx⟩ : ∃ x, start[j]? = some x := ⟨start[j], List.getElem?_eq_getElem hlt⟩
      obtain ⟨b2, off2, hA2, hb2, hc2⟩ := (HST.out.below (by omega) (Below.step HB.out z.prop)).1.form (by omega) (by omega)
      try simp only at hA2
      subst hA2
      have e0 : z.val.cell? ⟨b2, off2 + j * 2, none⟩ = some (.int .i64 cl) := by rw [hc2 _ (by omega)]; exact get_flat KCond.cells 2 (fun _ => rfl) start j 0 _ hx (by omega)
      have e1 : z.val.cell? ⟨b2, off2 + j * 2 + 1, none⟩ = some (.int .i64 is) := by rw [Nat.add_assoc, hc2 _ (by omega)]; exact get_flat KCond.cells 2 (fun _ => rfl) start j 1 _ hx (by omega)
      clear hc2
      obtain ⟨cl0, cl1⟩ : 0 ≤ cl ∧ cl < (s.marks.length : Int) := HIN.out _ (List.mem_of_getElem? hx)
      have e2 := HMC.out cl z cl0 cl1
      have hw2 : W0.heap.size = w.heap.size + 1 + 1 := by rw [HW0.out]; simp
      have hl0 : w.heap.size < z.val.heap.size := by have h1 := z.prop.size; omega
      have hl1 : w.heap.size + 1 < z.val.heap.size := by have h1 := z.prop.size; omega
      have hl2 : mb < z.val.heap.size := by have h1 := z.prop.size; omega
      clear hw2
      have HX := Lib.hid hx; clear hx
      have j1 : (j : Int) < (start.length : Int) := by omega
      generalize hxx : statusAt s.marks cl = x at e2
      have HXX := Lib.hid hxx; clear hxx
      focus
       cases q1 : (is == 1)
       focus
        have q1_0 : (is != 1) = true := by simpa using q1
        cases q2 : (is == 2)
        focus
         have q2_0 : (is != 2) = true := by simpa using q2
         cases q3 : (is == 3)
         focus
          have q3_0 : (is != 3) = true := by simpa using q3
          cases q4 : (is == 4)
          focus
           have q4_0 : (is != 4) = true := by simpa using q4
           have hP : holdsB is x = false := by unfold holdsB; rw [q1, q2, q3, q4]; rfl
           have hch : condHolds s.marks ⟨cl, is⟩ = false := by unfold condHolds; rw [HXX.out]; exact hP
           clear hP
           obtain rfl : E = false := by rw [← HE.out, HQ1.out, condsHold_bad HX.out hch]; rfl
           clear hch
           go_wp2
           go_ret
           exact ⟨rfl, Below.step HB.out (Below.alloc' z.prop _)⟩
          focus
           have q4_0 : (is != 4) = false := by simpa using q4
           cases q5 : (x == 5)
           focus
            have q5_0 : (x != 5) = true := by simpa using q5
            have hP : holdsB is x = false := by unfold holdsB; rw [q1, q2, q3, q4, q5]; rfl
            have hch : condHolds s.marks ⟨cl, is⟩ = false := by unfold condHolds; rw [HXX.out]; exact hP
            clear hP
            obtain rfl : E = false := by rw [← HE.out, HQ1.out, condsHold_bad HX.out hch]; rfl
            clear hch
            go_wp2
            go_ret
            exact ⟨rfl, Below.step HB.out (Below.alloc' z.prop _)⟩
           focus
            have q5_0 : (x != 5) = false := by simpa using q5
            have hP : holdsB is x = true := by unfold holdsB; rw [q1, q2, q3, q4, q5]; rfl
            have hch : condHolds s.marks ⟨cl, is⟩ = true := by unfold condHolds; rw [HXX.out]; exact hP
            clear hP
            have HCH := Lib.hid hch; clear hch
         rotate_left
         focus
          have q3_0 : (is != 3) = false := by simpa using q3
          cases q4 : (x == 4)
          focus
           have q4_0 : (x != 4) = true := by simpa using q4
           have hP : holdsB is x = false := by unfold holdsB; rw [q1, q2, q3, q4]; rfl
           have hch : condHolds s.marks ⟨cl, is⟩ = false := by unfold condHolds; rw [HXX.out]; exact hP
           clear hP
           obtain rfl : E = false := by rw [← HE.out, HQ1.out, condsHold_bad HX.out hch]; rfl
           clear hch
           go_wp2
           go_ret
           exact ⟨rfl, Below.step HB.out (Below.alloc' z.prop _)⟩
          focus
           have q4_0 : (x != 4) = false := by simpa using q4
           have hP : holdsB is x = true := by unfold holdsB; rw [q1, q2, q3, q4]; rfl
           have hch : condHolds s.marks ⟨cl, is⟩ = true := by unfold condHolds; rw [HXX.out]; exact hP
           clear hP
           have HCH := Lib.hid hch; clear hch
        rotate_left 2
        focus
         have q2_0 : (is != 2) = false := by simpa using q2
         cases q3 : (x == 3)
         focus
          have q3_0 : (x != 3) = true := by simpa using q3
          have hP : holdsB is x = false := by unfold holdsB; rw [q1, q2, q3]; rfl
          have hch : condHolds s.marks ⟨cl, is⟩ = false := by unfold condHolds; rw [HXX.out]; exact hP
          clear hP
          obtain rfl : E = false := by rw [← HE.out, HQ1.out, condsHold_bad HX.out hch]; rfl
          clear hch
          go_wp2
          go_ret
          exact ⟨rfl, Below.step HB.out (Below.alloc' z.prop _)⟩
         focus
          have q3_0 : (x != 3) = false := by simpa using q3
          have hP : holdsB is x = true := by unfold holdsB; rw [q1, q2, q3]; rfl
          have hch : condHolds s.marks ⟨cl, is⟩ = true := by unfold condHolds; rw [HXX.out]; exact hP
          clear hP
          have HCH := Lib.hid hch; clear hch
       rotate_left 3
       focus
        have q1_0 : (is != 1) = false := by simpa using q1
        cases q2 : (x == 0)
        focus
         have q2_0 : (x != 0) = true := by simpa using q2
         have hP : holdsB is x = true := by unfold holdsB; rw [q1, q2]; rfl
         have hch : condHolds s.marks ⟨cl, is⟩ = true := by unfold condHolds; rw [HXX.out]; exact hP
         clear hP
         have HCH := Lib.hid hch; clear hch
        rotate_left
        focus
         have q2_0 : (x != 0) = false := by simpa using q2
         have hP : holdsB is x = false := by unfold holdsB; rw [q1, q2]; rfl
         have hch : condHolds s.marks ⟨cl, is⟩ = false := by unfold condHolds; rw [HXX.out]; exact hP
         clear hP
         obtain rfl : E = false := by rw [← HE.out, HQ1.out, condsHold_bad HX.out hch]; rfl
         clear hch
         go_wp2
         go_ret
         exact ⟨rfl, Below.step HB.out (Below.alloc' z.prop _)⟩
       all_goals
        go_wp2
        go_roundg (start.length - (j + 1))
        case measure => rw [HGK.out]; omega
        case rel => exact ⟨j + 1, ⟨_, Below.alloc' z.prop _⟩, rfl, by omega, by go_num, rfl, condsHold_snoc HX.out hpre.out HCH.out⟩
    · obtain rfl : j = start.length := by omega
      have hcs : condsHold s.marks start = true := by have h := hpre.out; rwa [List.take_of_length_le (Nat.le_refl _)] at h
      obtain rfl : E = true := by rw [← HE.out, HQ1.out, hcs]; rfl
      clear hcs
      go_wp2
      go_ret
      exact ⟨rfl, Below.step HB.out (Bl.prop _)⟩
end Go.Proofs.YtaielhafpmjkaaaGreatDoor
