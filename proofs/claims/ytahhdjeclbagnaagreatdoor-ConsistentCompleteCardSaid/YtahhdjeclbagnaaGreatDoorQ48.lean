/-
  CvD
-/
import Derived.Test.YtahhdjeclbagnaaGreatDoorQ44
namespace Go.Proofs.YtahhdjeclbagnaaGreatDoor
open Go.RowKit Go.Shelf
set_option maxRecDepth 100000 in
set_option maxHeartbeats 4000000 in
theorem complete_walk (v : CV) (C : KCon) (t : FV) (f : KFile) (d : SV) (D : List Int) (u : Int) (w : World) (hC : ConAt w v C) (hF : FileAt w t f) (hR : ∀ x ∈ f.facts, In64 x.ref) (hD : At w 1 d.A D.length d.c (ints D)) (hT : Tab w) :
 Calls Tryz.prog 4 #[v.val C, t.val f, .slice d.A D.length d.c, .int .i64 u] w (RetB (.bool true) w) := by
 obtain ⟨⟨hA, hc⟩, ⟨uA, uc⟩, ⟨aA, ac⟩, ⟨kA, kc⟩, ⟨oA, oc⟩⟩ := v
 obtain ⟨⟨fA, fc⟩, ⟨pA, pc⟩⟩ := t
 obtain ⟨dA, dc⟩ := d
 have HC := Lib.hid hC; clear hC
 have HF := Lib.hid hF; clear hF
 have HT := Lib.hid hT; clear hT
 have HR := Lib.hid hR; clear hR
 have HD := Lib.hid hD; clear hD
 simp only [CV.val, CV.cells, FV.val, FV.cells]
 go_enter Tryz.func4, Tryz.ntmps4
 go_upto_region 1 with (fail)
 generalize hW0 : World.alloc _ _ = W0
 obtain ⟨HB0, h0, h1⟩ := bx2 hW0
 have HX0 : Hid (CoAt W0 w.heap.size ⟨⟨hA, hc⟩, ⟨uA, uc⟩, ⟨aA, ac⟩, ⟨kA, kc⟩, ⟨oA, oc⟩⟩ C) := ⟨HC.out.below HB0.out, ⟨[], by rw [List.append_nil]; exact h0⟩⟩
 have HY0 : Hid (FiAt W0 (w.heap.size + 1) ⟨⟨fA, fc⟩, ⟨pA, pc⟩⟩ f) := ⟨HF.out.below HB0.out, ⟨[], by rw [List.append_nil]; exact h1⟩⟩
 clear hW0 h0 h1 HC HF
 have HH := Lib.hid (head_any W0 (HT.out.below HB0.out))
 go_wp2_with (go_at_call 9; refine HH.out.mono ?_; rintro _ W1 ⟨rfl, hb⟩; refine Hid.out ?_)
 refine Lib.hid ?_
 have HX1 := Lib.hid (HX0.out.below hb)
 have HY1 := Lib.hid (HY0.out.below hb)
 have HB1 : Hid (Below w.heap.size w W1) := Below.step HB0.out hb
 clear hb HX0 HY0 HB0 HH
 obtain ⟨c0, c1, c2, c3, c4, c5, c6⟩ := HX1.out.cells
 obtain ⟨f0, f1, f2⟩ := HY1.out.cells
 simp only at c0 c1 c2 c3 c4 c5 c6 f0 f1 f2
 have HS := Lib.hid (small_one HX1.out.con HY1.out.file)
 go_wp2_with (go_at_call 10; refine HS.out.mono ?_; rintro _ W2 ⟨x, rfl, hs, hb⟩; refine Hid.out ?_)
 refine Lib.hid ?_
 have HX2 := Lib.hid (HX1.out.below hb)
 have HY2 := Lib.hid (HY1.out.below hb)
 have HB2 : Hid (Below w.heap.size w W2) := Below.step HB1.out hb
 have HSM := Lib.hid hs
 clear hb hs HX1 HY1 HB1 HS c0 c1 c2 c3 c4 c5 c6 f0 f1 f2
 cases x with
 | false =>
  go_wp2
  go_ret
  exact ⟨rfl, HB2.out⟩
 | true =>
  have hsm := HSM.out (by simp)
  obtain ⟨c0, c1, c2, c3, c4, c5, c6⟩ := HX2.out.cells
  obtain ⟨f0, f1, f2⟩ := HY2.out.cells
  simp only at c0 c1 c2 c3 c4 c5 c6 f0 f1 f2
  have hv := fileValid_any ⟨⟨hA, hc⟩, ⟨uA, uc⟩, ⟨aA, ac⟩, ⟨kA, kc⟩, ⟨oA, oc⟩⟩ C ⟨⟨fA, fc⟩, ⟨pA, pc⟩⟩ f W2 HX2.out.con HY2.out.file
  simp only [CV.val, CV.cells, FV.val, FV.cells] at hv
  cases hok : okFile C f with
  | false =>
   rw [hok] at hv
   have HV := Lib.hid hv
   clear hv hok
   go_wp2_with (go_at_call 12; refine HV.out.mono ?_; rintro _ W3 ⟨rfl, hb⟩; refine Hid.out ?_)
   refine Lib.hid ?_
   have HB3 : Hid (Below w.heap.size w W3) := Below.step HB2.out hb
   go_wp2
   go_ret
   exact ⟨rfl, HB3.out⟩
  | true =>
   rw [hok] at hv
   have HV := Lib.hid hv
   have HOK := Lib.hid hok
   clear hv hok
   go_wp2_with (go_at_call 12; refine HV.out.mono ?_; rintro _ W3 ⟨rfl, hb⟩; refine Hid.out ?_)
   refine Lib.hid ?_
   have HX3 := Lib.hid (HX2.out.below hb)
   have HY3 := Lib.hid (HY2.out.below hb)
   have HB3 : Hid (Below w.heap.size w W3) := Below.step HB2.out hb
   clear hb HX2 HY2 HB2 HV c0 c1 c2 c3 c4 c5 c6 f0 f1 f2
   obtain ⟨f0, f1, f2⟩ := HY3.out.cells
   simp only at f0 f1 f2
   have hm := may_any f D ⟨⟨fA, fc⟩, ⟨pA, pc⟩⟩ dA dc W3 HY3.out.file (HD.out.below (by omega) HB3.out)
   simp only [FV.val, FV.cells] at hm
   have HM := Lib.hid hm; clear hm
   go_wp2_with (go_at_call 15; refine HM.out.mono ?_; rintro _ W4 ⟨x, rfl, hmx, hb⟩; refine Hid.out ?_)
   refine Lib.hid ?_
   have HX4 := Lib.hid (HX3.out.below hb)
   have HY4 := Lib.hid (HY3.out.below hb)
   have HB4 : Hid (Below w.heap.size w W4) := Below.step HB3.out hb
   have HMX := Lib.hid hmx
   clear hb hmx HX3 HY3 HB3 HM f0 f1 f2
   cases x with
   | false =>
    go_wp2
    go_ret
    exact ⟨rfl, HB4.out⟩
   | true =>
    have HPL := Lib.hid (complete_plain HOK.out (HMX.out (by simp)))
    obtain ⟨c0, c1, c2, c3, c4, c5, c6⟩ := HX4.out.cells
    obtain ⟨f0, f1, f2⟩ := HY4.out.cells
    simp only at c0 c1 c2 c3 c4 c5 c6 f0 f1 f2
    have HJ := Lib.hid (join_one HX4.out.con HY4.out.file HR.out hsm.1 hsm.2)
    go_wp2_with (go_at_call 11; refine HJ.out.mono ?_; rintro _ W5 ⟨ho5, F5, O5, er5, A5, d5, B5, b5, rfl, _, hb, hj⟩; obtain rfl := HPL.out.1 hj; refine Hid.out ?_)
    refine Lib.hid ?_
    have HX5 := Lib.hid (HX4.out.below hb)
    have HY5 := Lib.hid (HY4.out.below hb)
    have HB5 : Hid (Below w.heap.size w W5) := Below.step HB4.out hb
    clear hb hj HX4 HY4 HB4 HJ c0 c1 c2 c3 c4 c5 c6 f0 f1 f2
    go_upto_region 5 with (fail)
    generalize hW6 : World.alloc _ _ = W6
    obtain ⟨hb6, _⟩ := bx1' hW6
    have HX6 := Lib.hid (HX5.out.below hb6)
    have HY6 := Lib.hid (HY5.out.below hb6)
    have HB6 : Hid (Below w.heap.size w W6) := Below.step HB5.out hb6
    clear hW6 hb6 HX5 HY5 HB5
    obtain ⟨c0, c1, c2, c3, c4, c5, c6⟩ := HX6.out.cells
    obtain ⟨f0, f1, f2⟩ := HY6.out.cells
    simp only at c0 c1 c2 c3 c4 c5 c6 f0 f1 f2
    have hco := completions_any ⟨⟨hA, hc⟩, ⟨uA, uc⟩, ⟨aA, ac⟩, ⟨kA, kc⟩, ⟨oA, oc⟩⟩ C ⟨⟨fA, fc⟩, ⟨pA, pc⟩⟩ f u W6 HX6.out.con HY6.out.file (by omega) (HT.out.below HB6.out)
    simp only [CV.val, CV.cells, FV.val, FV.cells] at hco
    have HCO := Lib.hid hco; clear hco
    go_wp2_with (go_at_call 16; refine HCO.out.mono ?_; rintro _ W7 ⟨L, er, A7, d7, rfl, hN, hb, hc7⟩; refine Hid.out ?_)
    refine Lib.hid ?_
    have HX7 := Lib.hid (HX6.out.below hb)
    have HY7 := Lib.hid (HY6.out.below hb)
    have HB7 : Hid (Below w.heap.size w W7) := Below.step HB6.out hb
    have HN7 := Lib.hid hN
    have HP7 := Lib.hid (HPL.out.2 hc7)
    clear hb hN hc7 HX6 HY6 HB6 HCO HPL c0 c1 c2 c3 c4 c5 c6 f0 f1 f2
    have q23 : (er == 23) = false := by
     have := HP7.out.1
     simpa using this
    by_cases her : er = 0
    · subst her
      have HIN := Lib.hid (HP7.out.2.1 rfl)
      obtain ⟨f0, f1, f2⟩ := HY7.out.cells
      simp only at f0 f1 f2
      have htr := trace_any fA fc dA dc f.facts D u W7 HY7.out.file.facts (HD.out.below (by omega) HB7.out) HR.out (by omega)
      generalize traceM f.facts D u = y at HIN htr
      have HTR := Lib.hid htr
      clear htr HP7 q23
      go_wp2_with (go_at_call 18; refine HTR.out.mono ?_; rintro _ W8 ⟨A8, d8, rfl, h8, hb⟩; refine Hid.out ?_)
      refine Lib.hid ?_
      have HB8 : Hid (Below w.heap.size w W8) := Below.step HB7.out hb
      have hin := in_any L y ⟨A7, d7⟩ ⟨A8, d8⟩ W8 (HN7.out.below hb) (rowAt_own h8 (ints_one y))
      rw [decide_eq_true HIN.out] at hin
      simp only at hin
      have HI := Lib.hid hin
      clear hin h8 hb HTR f0 f1 f2
      go_wp2_with (go_at_call 17; refine HI.out.mono ?_; rintro _ W9 ⟨rfl, hb⟩; refine Hid.out ?_)
      refine Lib.hid ?_
      have HB9 : Hid (Below w.heap.size w W9) := Below.step HB8.out hb
      go_wp2
      go_ret
      exact ⟨rfl, HB9.out⟩
    · have q0 : (er != 0) = true := by simp [her]
      have h3 := HP7.out.2.2 her
      have c5 := HX7.out.cells.2.2.2.2.2.1
      clear HP7 her
      rcases h3 with rfl | h3 | h3
      · go_wp2
        go_ret
        exact ⟨rfl, HB7.out⟩
      · cases q3 : (er == 3)
        all_goals
         go_wp2
         go_ret
         exact ⟨rfl, HB7.out⟩
      · cases q3 : (er == 3)
        all_goals
         cases q4 : decide (u < 0)
         all_goals
          go_wp2
          go_ret
          exact ⟨rfl, HB7.out⟩
end Go.Proofs.YtahhdjeclbagnaaGreatDoor
