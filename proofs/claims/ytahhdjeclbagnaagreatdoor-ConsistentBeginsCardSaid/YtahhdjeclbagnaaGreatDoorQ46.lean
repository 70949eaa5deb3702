/-
  CvB
-/
import Derived.Test.YtahhdjeclbagnaaGreatDoorQ44
namespace Go.Proofs.YtahhdjeclbagnaaGreatDoor
open Go.RowKit Go.Shelf
set_option maxRecDepth 100000 in
set_option maxHeartbeats 4000000 in
theorem begins_walk (v : CV) (C : KCon) (t : FV) (f : KFile) (e l : Int) (w : World) (hC : ConAt w v C) (hF : FileAt w t f) (he : e ≤ 9223372036854775807) (hT : Tab w) :
 Calls Tryz.prog 6 #[v.val C, t.val f, .int .i64 e, .int .i64 l] w (RetB (.bool true) w) := by
 obtain ⟨⟨hA, hc⟩, ⟨uA, uc⟩, ⟨aA, ac⟩, ⟨kA, kc⟩, ⟨oA, oc⟩⟩ := v
 obtain ⟨⟨fA, fc⟩, ⟨pA, pc⟩⟩ := t
 have HC := Lib.hid hC; clear hC
 have HF := Lib.hid hF; clear hF
 have HT := Lib.hid hT; clear hT
 simp only [CV.val, CV.cells, FV.val, FV.cells]
 go_enter Tryz.func6, Tryz.ntmps6
 go_upto_region 1 with (fail)
 generalize hW0 : World.alloc _ _ = W0
 obtain ⟨HB0, h0, h1⟩ := bx2 hW0
 have HX0 : Hid (CoAt W0 w.heap.size ⟨⟨hA, hc⟩, ⟨uA, uc⟩, ⟨aA, ac⟩, ⟨kA, kc⟩, ⟨oA, oc⟩⟩ C) := ⟨HC.out.below HB0.out, ⟨[], by rw [List.append_nil]; exact h0⟩⟩
 have HY0 : Hid (FiAt W0 (w.heap.size + 1) ⟨⟨fA, fc⟩, ⟨pA, pc⟩⟩ f) := ⟨HF.out.below HB0.out, ⟨[], by rw [List.append_nil]; exact h1⟩⟩
 clear hW0 h0 h1 HC HF
 have HH := Lib.hid (head_any W0 (HT.out.below HB0.out))
 go_wp2_with (go_at_call 9; refine HH.out.mono ?_; rintro _ W1 ⟨rfl, hb⟩; refine Hid.out ?_)
 refine Lib.hid ?_
 have HX1 := Lib.hid (HX0.out.below hb)
 have HY1 := Lib.hid (HY0.out.below hb)
 have HB1 : Hid (Below w.heap.size w W1) := Below.step HB0.out hb
 clear hb HX0 HY0 HB0 HH
 obtain ⟨c0, c1, c2, c3, c4, c5, c6⟩ := HX1.out.cells
 obtain ⟨f0, f1, f2⟩ := HY1.out.cells
 simp only at c0 c1 c2 c3 c4 c5 c6 f0 f1 f2
 have HS := Lib.hid (small_one HX1.out.con HY1.out.file)
 go_wp2_with (go_at_call 10; refine HS.out.mono ?_; rintro _ W2 ⟨x, rfl, hs, hb⟩; refine Hid.out ?_)
 refine Lib.hid ?_
 have HX2 := Lib.hid (HX1.out.below hb)
 have HY2 := Lib.hid (HY1.out.below hb)
 have HB2 : Hid (Below w.heap.size w W2) := Below.step HB1.out hb
 have HSM := Lib.hid hs
 clear hb hs HX1 HY1 HB1 HS c0 c1 c2 c3 c4 c5 c6 f0 f1 f2
 cases x with
 | false =>
  go_wp2
  go_ret
  exact ⟨rfl, HB2.out⟩
 | true =>
  by_cases hel : l < e
  · go_wp2
    go_ret
    exact ⟨rfl, HB2.out⟩
  · obtain ⟨c0, c1, c2, c3, c4, c5, c6⟩ := HX2.out.cells
    obtain ⟨f0, f1, f2⟩ := HY2.out.cells
    simp only at c0 c1 c2 c3 c4 c5 c6 f0 f1 f2
    have hco := completions_any ⟨⟨hA, hc⟩, ⟨uA, uc⟩, ⟨aA, ac⟩, ⟨kA, kc⟩, ⟨oA, oc⟩⟩ C ⟨⟨fA, fc⟩, ⟨pA, pc⟩⟩ f e W2 HX2.out.con HY2.out.file (by have := HSM.out (by simp); omega) (HT.out.below HB2.out)
    simp only [CV.val, CV.cells, FV.val, FV.cells] at hco
    have HCO := Lib.hid hco; clear hco
    go_wp2_with (go_at_call 16; refine HCO.out.mono ?_; rintro _ W3 ⟨L1, er1, A1, d1, rfl, hN, hb, hc1⟩; refine Hid.out ?_)
    refine Lib.hid ?_
    have HX3 := Lib.hid (HX2.out.below hb)
    have HY3 := Lib.hid (HY2.out.below hb)
    have HB3 : Hid (Below w.heap.size w W3) := Below.step HB2.out hb
    have HN3 := Lib.hid hN
    have HC1 := Lib.hid hc1
    clear hb hN hc1 HX2 HY2 HB2 HCO c0 c1 c2 c3 c4 c5 c6 f0 f1 f2
    obtain ⟨c0, c1, c2, c3, c4, c5, c6⟩ := HX3.out.cells
    obtain ⟨f0, f1, f2⟩ := HY3.out.cells
    simp only at c0 c1 c2 c3 c4 c5 c6 f0 f1 f2
    have hco := completions_any ⟨⟨hA, hc⟩, ⟨uA, uc⟩, ⟨aA, ac⟩, ⟨kA, kc⟩, ⟨oA, oc⟩⟩ C ⟨⟨fA, fc⟩, ⟨pA, pc⟩⟩ f l W3 HX3.out.con HY3.out.file (by have := HSM.out (by simp); omega) (HT.out.below HB3.out)
    simp only [CV.val, CV.cells, FV.val, FV.cells] at hco
    have HCO := Lib.hid hco; clear hco
    go_wp2_with (go_at_call 16; refine HCO.out.mono ?_; rintro _ W4 ⟨L2, er2, A2, d2, rfl, hN, hb, hc2⟩; refine Hid.out ?_)
    refine Lib.hid ?_
    have HB4 : Hid (Below w.heap.size w W4) := Below.step HB3.out hb
    have HN4 := Lib.hid (HN3.out.below hb)
    have HM4 := Lib.hid hN
    have HC2 := Lib.hid hc2
    clear hb hN hc2 HX3 HY3 HB3 HN3 HCO c0 c1 c2 c3 c4 c5 c6 f0 f1 f2 HT HSM
    by_cases h1 : er1 = 0
    · by_cases h2 : er2 = 0
      · subst h1 h2
        have HPL := Lib.hid (begins_plain HC1.out HC2.out (by omega))
        have n1 := HC1.out.count
        have n2 := HC2.out.count
        have HLN := Lib.hid HC2.out.len
        obtain ⟨is, his, hiz, hiss, hib⟩ := info_parts' (P := Tryz.prog) (t := 22) (z := some (.slice none 0 0)) (s := 1) (b := 24) (by kernel_rfl)
        clear HC1 HC2
        go_wp2
        go_loopw [14, 15] (fun v14 v15 wr => ∃ (k : Nat) (R : List (List Int)) (A : Option Addr) (c : Nat), k ≤ L2.length ∧ v15 = .int .i64 k ∧ v14 = .slice A R.length c ∧ R.length ≤ k ∧ Hid ((L2.take k).map (fun x => beginM x e) = R) ∧ Hid (ResAt wr W4.heap.size (.slice A R.length c) R) ∧ Hid (Below W4.heap.size W4 wr)) (fun _ v15 _ => L2.length - (intOf v15).toNat)
        case atStart => exact ⟨0, [], none, 0, Nat.zero_le _, rfl, rfl, Nat.le_refl _, rfl, ResAt.nil _ _, Below.refl _ _⟩
        case round =>
         obtain ⟨k, R, vA, vc, hk, rfl, rfl, hrk, HRE, HR, HBW⟩ := hrel
         by_cases hlt : k < L2.length
         · obtain ⟨x, hx⟩ : ∃ x, L2[k]? = some x := ⟨_, List.getElem?_eq_getElem hlt⟩
           obtain ⟨g2, o2, e2, hg2, hc2⟩ := HM4.out.form (by omega)
           simp only at e2
           subst e2
           obtain ⟨s, hs, hcs⟩ := hc2 k x hx
           have x0 := hcs wr HBW.out
           have k1 : (k : Int) < (L2.length : Int) := by omega
           have HX := Lib.hid hx
           obtain ⟨y, hy⟩ : ∃ y, beginM x e = y := ⟨_, rfl⟩
           have HIN : Hid (y ∈ L1) := by rw [← hy]; exact HPL.out.1 x (List.mem_of_getElem? hx)
           have hbg := begin_any x e s.A s.c wr (hs.below (by omega) HBW.out) (by have := HLN.out x (List.mem_of_getElem? hx); omega) he
           rw [hy] at hbg
           have HBG := Lib.hid hbg
           have HSN : Hid ((L2.take (k + 1)).map (fun x => beginM x e) = R ++ [y]) := by show _ = _; rw [take_snocX hx, List.map_append, ← hy, HRE.out]; rfl
           clear hx hc2 hs hcs hy hbg
           go_wp2_with (go_at_call 20; refine HBG.out.mono ?_; rintro _ W5 ⟨A5, d5, rfl, h5, hb⟩; refine Hid.out ?_)
           refine Lib.hid ?_
           have H5 := Lib.hid h5
           have HB5 : Hid (Below W4.heap.size W4 W5) := Below.step HBW.out hb
           have HR5 := Lib.hid (HR.out.below hb)
           have hin := in_any L1 y ⟨A1, d1⟩ ⟨A5, d5⟩ W5 (HN4.out.below HB5.out) (rowAt_own h5 (ints_one y))
           rw [decide_eq_true HIN.out] at hin
           simp only at hin
           have HI := Lib.hid hin
           clear h5 hb hin HBG x0
           go_wp2_with (go_at_call 17; refine HI.out.mono ?_; rintro _ W6 ⟨rfl, hb⟩; refine Hid.out ?_)
           refine Lib.hid ?_
           have HB6 : Hid (Below W4.heap.size W4 W6) := Below.step HB5.out hb
           have H6 : Hid (W6.ownsRow W4.heap.size 3 1 (.slice A5 y.length d5) y.length (ints y)) := ownsRow_base (ownsRow_belowX H5.out hb) (fun g hg => by have h7 := (H5.out.lt g hg).1; have := HBW.out.size; omega)
           obtain ⟨ts, r1, r2, r3⟩ := HR5.out.below hb
           have HR1 := Lib.hid r1
           have HR2 := Lib.hid r2
           have HR3 := Lib.hid r3
           have hsz := HB6.out.size
           clear hb r1 r2 r3 HI HR HR5
           go_wp2_with (at_builtin; refine wpList_append_oneX rfl _ _ 42 rfl 22 is (.slice none 0 0) 1 24 Tryz.underlying42 his hiz hiss hib rfl (by decide) W4.heap.size _ _ _ rfl HR2.out [.slice A5 y.length d5] _ rfl rfl (by intro u hu; simp only [List.mem_cons, List.not_mem_nil, or_false] at hu; subst hu; rfl) rfl (by unfold maxLen; omega) (by omega) hsz ?_; intro g6 c6 w6 q1 q2; refine Hid.out ?_)
           refine Lib.hid ?_
           have HU : Hid (Upd (fun k => (Value.slice vA R.length vc).ownBlock = some k) W6 w6) := Upd.trans ((Upd.refl _ W6).alloc _) (Upd.of_grown q2) (fun i _ h => h)
           have HRS : Hid (ResAt w6 W4.heap.size (.slice (some ⟨g6, 0, none⟩) (R ++ [y]).length c6) (R ++ [y])) := by
            show ResAt _ _ _ _
            rw [List.length_append]
            exact ResAt.snoc (t := ⟨A5, d5⟩) HR1.out HR2.out HR3.out H6.out q1 HU.out
           have HL6 : Hid ((R ++ [y]).length = R.length + 1) := by show _ = _; simp
           have HBN : Hid (Below W4.heap.size W4 w6) := HB6.out.trans (HU.out.below hsz (fun k hk => (HR2.out.lt k hk).1))
           clear q1 q2
           go_wp2
           go_roundw
           case rel => exact ⟨k + 1, R ++ [y], _, _, by omega, by go_num, by rw [HL6.out], by rw [HL6.out]; omega, HSN, HRS, HBN⟩
           case measure => simp [intOf]; omega
         · obtain rfl : k = L2.length := by omega
           rw [List.take_length] at HRE
           have HV := Lib.hid HR.out.nums.2
           have HPI : Hid (∀ y ∈ L1, y ∈ R) := fun y hy => by
            obtain ⟨x, hx, h⟩ := HPL.out.2 y hy
            rw [← HRE.out]
            exact List.mem_map.2 ⟨x, hx, h⟩
           clear HR HRE hlt hk HPL HLN HM4
           go_wp2
           go_loopw [17] (fun v17 wq => ∃ k : Nat, k ≤ L1.length ∧ v17 = .int .i64 k ∧ Hid (Below wr.heap.size wr wq)) (fun v17 _ => L1.length - (intOf v17).toNat)
           case atStart => exact ⟨0, Nat.zero_le _, rfl, Below.refl _ _⟩
           case round =>
            obtain ⟨k, hk, rfl, HBQ⟩ := hrel
            by_cases hlt : k < L1.length
            · obtain ⟨y, hy⟩ : ∃ y, L1[k]? = some y := ⟨_, List.getElem?_eq_getElem hlt⟩
              obtain ⟨g1, o1, e1, hg1, hc1⟩ := (HN4.out.below HBW.out).form (by omega)
              simp only at e1
              subst e1
              obtain ⟨s, hs, hcs⟩ := hc1 k y hy
              have x0 := hcs wr HBQ.out
              have k1 : (k : Int) < (L1.length : Int) := by omega
              have hin := in_any R y ⟨vA, vc⟩ s wr (HV.out.below HBQ.out) (hs.below (by omega) HBQ.out)
              rw [decide_eq_true (HPI.out y (List.mem_of_getElem? hy))] at hin
              simp only at hin
              have HI := Lib.hid hin
              clear hin hc1 hs hcs hy
              go_wp2_with (go_at_call 17; refine HI.out.mono ?_; rintro _ W6 ⟨rfl, hb⟩; refine Hid.out ?_)
              refine Lib.hid ?_
              have HB6 := Lib.hid (Below.step HBQ.out hb)
              clear hb HI x0
              go_wp2
              go_roundw
              case rel => exact ⟨k + 1, by omega, by go_num, HB6⟩
              case measure => simp [intOf]; omega
            · have HBE : Hid (Below w.heap.size w wr) := Below.step (Below.step HB4.out HBW.out) HBQ.out
              go_wp2
              go_ret
              exact ⟨rfl, HBE.out⟩
      · have q2 : (er2 != 0) = true := by simp [h2]
        subst h1
        clear h2
        go_wp2
        go_ret
        exact ⟨rfl, HB4.out⟩
    · have q1 : (er1 != 0) = true := by simp [h1]
      clear h1
      go_wp2
      go_ret
      exact ⟨rfl, HB4.out⟩
end Go.Proofs.YtahhdjeclbagnaaGreatDoor
