/-
  The walk of NetworkHouses.
-/
import Derived.Test.YtfpiiehdmdmoeaaOps
namespace Go.Proofs.Ytfpiiehdmdmoeaa
open Go.RowKit

set_option maxRecDepth 100000 in
set_option maxHeartbeats 2000000 in
theorem houses_walk (h : Int) (fv lv : Value) (raw : Int) (fs : List Fate) (l : List Opn) (w : World) (hf : Arg w 3 fv fs.length (flatF fs)) (hl : Arg w 5 lv l.length (flatO l)) (hll : l.length ≤ 9223372036854775807) (hraw : (Lit.int .u8 raw).wf = true) :
    Calls Try.prog 8 #[.int .i64 h, fv, lv, .int .u8 raw] w (RetB (.bool true) w) := by
  have hr8 : 0 ≤ raw ∧ raw ≤ 255 := by simpa [Lit.wf, IntKind.min, IntKind.max, IntKind.signed, IntKind.bits] using hraw
  obtain ⟨hr0, hr255⟩ := hr8
  clear hraw
  have HF := Lib.hid hf; clear hf
  have HL := Lib.hid hl; clear hl
  go_enter Try.func8, Try.ntmps8
  go_wp2_with fail
  refine (head_any w).mono ?_
  rintro e w1 ⟨rfl, hb1⟩
  have HB1 := Lib.hid hb1; clear hb1
  have hs : Hid (Calls Try.prog 23 #[fv, lv] w1 (Ret (.bool (smallB fs l)) w1)) := small_any fv lv fs l w1 (HF.out.below (by omega) HB1.out) (HL.out.below (by omega) HB1.out) hll
  go_wp2_with fail
  refine hs.out.mono ?_
  rintro e w' ⟨rfl, rfl⟩
  clear hs
  cases hsm : smallB fs l with
  | false =>
    clear hll
    go_wp2_with fail
    go_ret
    exact ⟨rfl, HB1.out⟩
  | true =>
    obtain ⟨hf60, hl200⟩ := smallB_yes hsm
    clear hll
    have hg : Hid (Calls Try.prog 24 #[.int .i64 h, fv] w1 (RetB (.bool (okNew h fs)) w1)) := good_any h fv fs w1 (HF.out.below (by omega) HB1.out) (by omega)
    go_wp2_with fail
    refine hg.out.mono ?_
    rintro e w2 ⟨rfl, hb2⟩
    have HB2 : Hid (Below w.heap.size w w2) := HB1.out.trans (hb2.mono HB1.out.size)
    clear hg hb2 HB1
    cases hon : okNew h fs with
    | false =>
      go_wp2_with fail
      go_ret
      exact ⟨rfl, HB2.out⟩
    | true =>
      obtain ⟨n, rfl, hn1, hn12, hfok⟩ := okNew_yes hon
      have HFOK := Lib.hid hfok; clear hfok
      have HON := Lib.hid hon; clear hon hsm
      obtain ⟨r, rfl⟩ := Int.eq_ofNat_of_zero_le hr0
      obtain ⟨hn, hhn, hmod⟩ : ∃ hn : Nat, hn < n ∧ ((r : Int) % (n : Int)) = hn := ⟨r % n, Nat.mod_lt _ (by omega), by simp⟩
      have hnz : ((n : Int) == 0) = false := by simp; omega
      have hlB := HL.out.below (by omega) HB2.out
      obtain ⟨lA, lc, rfl, hls, hln⟩ := hlB
      have HLS := Lib.hid hls; clear hls hln
      go_wp2_with fail
      simp only [hmod]
      clear hmod
      go_loopg [11, 12] l.length (fun gk v i wr => ∃ (j m : Nat) (A : Option Addr) (c : Nat) (blk : Option Nat), gk = l.length - j ∧ j ≤ l.length ∧ i = .int .i64 j ∧ v = .slice A m c ∧ m ≤ j ∧ m = ((l.take j).filter (keepB hn)).length ∧ RowAt wr 33 5 (.slice A m c) m (flatO ((l.take j).filter (keepB hn))) blk ∧ (∀ k, blk = some k → w2.heap.size ≤ k) ∧ Below w2.heap.size w2 wr)
      case atStart => exact ⟨0, 0, none, 0, none, rfl, Nat.zero_le _, rfl, rfl, Nat.le_refl _, rfl, RowAt.nil _ _ _, (fun _ h => by cases h), Below.refl _ _⟩
      case round =>
        obtain ⟨j, m, A, c, blk, hgk, hj, rfl, rfl, hmj, hml, hrow, hnb, hbw⟩ := hrel
        have HGK := Lib.hid hgk; clear hgk
        have HML := Lib.hid hml; clear hml
        by_cases hlt : j < l.length
        · obtain ⟨lb, loff, rfl, hlbl, hlc⟩ := (HLS.out.below (by omega) hbw).form (by omega) (by omega)
          obtain ⟨o, ho⟩ : ∃ o, l[j]? = some o := ⟨l[j], List.getElem?_eq_getElem hlt⟩
          have hcw : ∀ i, i < 5 → wr.cell? ⟨lb, loff + j * 5 + i, none⟩ = o.cells[i]? := fun i hi => by
            rw [Nat.add_assoc, hlc _ (by omega)]
            exact get_flat _ 5 (fun _ => rfl) l j i o ho hi
          have hfil : (l.take (j + 1)).filter (keepB hn) = if keepB hn o = true then (l.take j).filter (keepB hn) ++ [o] else (l.take j).filter (keepB hn) := by
            obtain ⟨hj2, rfl⟩ := List.getElem?_eq_some_iff.1 ho
            rw [List.take_succ_eq_append_getElem hj2, List.filter_append]
            by_cases hk : keepB hn l[j] = true <;> simp [hk]
          obtain ⟨A', c', w', blk', hrun, hrow', hu', hb'⟩ := append_op hrow o (by omega)
          obtain ⟨kd, hs, ⟨pa, pb, ps⟩⟩ := o
          have k0 : wr.cell? ⟨lb, loff + j * 5, none⟩ = some (.int .i64 kd) := hcw 0 (by omega)
          have k1 : wr.cell? ⟨lb, loff + j * 5 + 1, none⟩ = some (.int .i64 hs) := hcw 1 (by omega)
          have k2 : wr.cell? ⟨lb, loff + j * 5 + 2, none⟩ = some (.int .i64 pa) := hcw 2 (by omega)
          have k3 : wr.cell? ⟨lb, loff + j * 5 + 3, none⟩ = some (.int .i64 pb) := hcw 3 (by omega)
          have k4 : wr.cell? ⟨lb, loff + j * 5 + 4, none⟩ = some (.string ps) := hcw 4 (by omega)
          clear hcw
          have HFIL := Lib.hid hfil; clear hfil
          have HRUN := Lib.hid hrun; clear hrun
          have HROW := Lib.hid hrow; clear hrow
          have HROW' := Lib.hid hrow'; clear hrow'
          have HU' := Lib.hid hu'; clear hu'
          have HB' := Lib.hid hb'; clear hb'
          have HNB := Lib.hid hnb; clear hnb
          have HBW := Lib.hid hbw; clear hbw
          have HLC := Lib.hid hlc; clear hlc
          have HO := Lib.hid ho; clear ho
          have hj1 : (j : Int) < (l.length : Int) := by omega
          have hkeep : Hid (RowAt w' 33 5 (.slice A' (m + 1) c') (m + 1) (flatO ((l.take j).filter (keepB hn) ++ [⟨kd, hs, ⟨pa, pb, ps⟩⟩])) blk' ∧ (∀ k, blk' = some k → w2.heap.size ≤ k) ∧ Below w2.heap.size w2 w') := by
            have hsz := HBW.out.size
            refine ⟨HROW'.out, fun k hk => ?_, HBW.out.trans (HU'.out.below hsz (fun k hk => HNB.out k hk))⟩
            rcases HB'.out with e | ⟨k2, e, hk2⟩
            · exact HNB.out k (e ▸ hk)
            · rw [e] at hk; injection hk with hk; omega
          by_cases e1 : kd = 1
          · subst e1
            by_cases e2 : hs = hn
            · subst e2
              have hkb : keepB hn ⟨1, hn, ⟨pa, pb, ps⟩⟩ = true := by simp [keepB]
              have HKB := Lib.hid hkb; clear hkb
              have d1 : (((hn : Nat) : Int) == (hn : Int)) = true := by simp
              go_wp2_with (at_builtin; refine wpList_append_run rfl _ _ _ _ rfl _ _ rfl rfl HRUN.out ?_)
              go_roundg (l.length - (j + 1))
              case measure => rw [HGK.out]; omega
              case rel => exact ⟨j + 1, m + 1, A', c', blk', rfl, by omega, by go_num, rfl, by omega, by rw [HFIL.out, if_pos HKB.out, List.length_append, ← HML.out]; rfl, by rw [HFIL.out, if_pos HKB.out]; exact hkeep.out.1, hkeep.out.2.1, hkeep.out.2.2⟩
            · have hkb : keepB hn ⟨1, hs, ⟨pa, pb, ps⟩⟩ = false := by simp [keepB, e2]
              have HKB := Lib.hid hkb; clear hkb
              have d1 : (hs == (hn : Int)) = false := by simpa using e2
              clear e2
              go_wp2_with fail
              go_roundg (l.length - (j + 1))
              case measure => rw [HGK.out]; omega
              case rel => exact ⟨j + 1, m, A, c, blk, rfl, by omega, by go_num, rfl, by omega, by rw [HFIL.out, if_neg (by rw [HKB.out]; decide)]; exact HML.out, by rw [HFIL.out, if_neg (by rw [HKB.out]; decide)]; exact HROW.out, HNB.out, HBW.out⟩
          · have hkb : keepB hn ⟨kd, hs, ⟨pa, pb, ps⟩⟩ = true := by simp [keepB, e1]
            have HKB := Lib.hid hkb; clear hkb
            have d1 : (kd != 1) = true := by simpa using e1
            clear e1
            go_wp2_with (at_builtin; refine wpList_append_run rfl _ _ _ _ rfl _ _ rfl rfl HRUN.out ?_)
            go_roundg (l.length - (j + 1))
            case measure => rw [HGK.out]; omega
            case rel => exact ⟨j + 1, m + 1, A', c', blk', rfl, by omega, by go_num, rfl, by omega, by rw [HFIL.out, if_pos HKB.out, List.length_append, ← HML.out]; rfl, by rw [HFIL.out, if_pos HKB.out]; exact hkeep.out.1, hkeep.out.2.1, hkeep.out.2.2⟩
        · obtain rfl : l.length = j := by omega
          have HB3 : Hid (Below w.heap.size w wr) := HB2.out.trans (hbw.mono HB2.out.size)
          have hfl : (l.take l.length).filter (keepB hn) = l.filter (keepB hn) := by rw [List.take_of_length_le (Nat.le_refl _)]
          rw [hfl] at hrow
          have hml := HML.out
          rw [hfl] at hml
          subst hml
          have harg := hrow.arg (one_flatO _)
          have HARG := Lib.hid harg; clear harg
          clear hrow hnb hbw hfl HML
          have HSM := hhn
          have hnew := new_any n fv fs wr (HF.out.below (by omega) HB3.out) (by omega)
          rw [HON.out] at hnew
          have HNEW := Lib.hid hnew; clear hnew
          go_wp2_with fail
          refine HNEW.out.mono ?_
          rintro e w4 ⟨hb4, ⟨hx, _⟩ | ⟨_, g, F0, rfl, hr4, hF4⟩⟩
          · cases hx
          simp only [Int.toNat_natCast] at hr4
          have HB4 : Hid (Below w.heap.size w w4) := HB3.out.trans (hb4.mono HB3.out.size)
          have HF4 : Hid (∀ k, F0 k → wr.heap.size ≤ k) := hF4
          have HBR4 : Hid (Below wr.heap.size wr w4) := hb4
          have HF4w : Hid (∀ k, F0 k → w.heap.size ≤ k) := fun k hk => Nat.le_trans HB3.out.size (hF4 k hk)
          have HR4 := Lib.hid hr4; clear hr4 hb4 hF4 HNEW
          have hp : Hid (Calls Try.prog 25 #[.pointer (some ⟨g, 0, none⟩), .int .i64 n, fv, .slice lA l.length lc] w4 (PlayPost F0 g ((St.start (Net.new n fs) n).run fs l) w4)) :=
            play_any HR4.out (Net.new_ok hn1 hn12 HFOK.out) rfl n (by simp [Net.new]) fv (.slice lA l.length lc) fs HFOK.out l (HF.out.x (by omega) HB4.out HF4w.out) (HL.out.x (by omega) HB4.out HF4w.out) (by omega)
          go_wp2_with fail
          refine hp.out.mono ?_
          rintro e w5 ⟨sv, bb, gb, F, G, rfl, hout⟩
          clear hp
          obtain ⟨hinv, hgl⟩ := pst_inv (N := Net.new n fs) (houses := n) (fates := fs) (l := l) HFOK.out (Net.new_ok hn1 hn12 HFOK.out) rfl (by simp [Net.new]) (by omega) l.length (Nat.le_refl _)
          rw [pst_end] at hinv hgl
          have hfl : (l.filter (keepB hn)).length ≤ l.length := List.length_filter_le _ _
          obtain ⟨hinv2, hgl2⟩ := pst_inv (N := Net.new n fs) (houses := n) (fates := fs) (l := l.filter (keepB hn)) HFOK.out (Net.new_ok hn1 hn12 HFOK.out) rfl (by simp [Net.new]) (by omega) (l.filter (keepB hn)).length (Nat.le_refl _)
          rw [pst_end] at hinv2 hgl2
          obtain ⟨hsg, hss⟩ := houses_same HFOK.out hn1 hn12 l (by omega) HSM
          generalize hs1 : (St.start (Net.new n fs) n).run fs l = s1 at hout hinv hgl hsg hss ⊢
          clear hs1
          obtain ⟨_, sblk, vs, gblk, hbk⟩ := hout.book
          have hsv := hbk.c0.symm.trans hout.sv
          injection hsv with hsv
          subst hsv
          obtain ⟨sA, sc, rfl, _⟩ := hbk.sentR.src (one_flatP _)
          have hssr := hbk.sentR.arg (one_flatP _)
          have HU5 : Hid (Upd F0 w4 w5) := hout.upd
          have HBK := Lib.hid hbk; clear hbk
          have HSSR := Lib.hid hssr; clear hssr
          clear hout
          have HBR5 : Hid (Below wr.heap.size wr w5) := HBR4.out.trans (HU5.out.below HBR4.out.size HF4.out)
          have HB5 : Hid (Below w.heap.size w w5) := HB3.out.trans (HBR5.out.mono HB3.out.size)
          obtain ⟨W6, HW6⟩ : ∃ W6, Hid (W6 = w5.alloc (.cells #[.slice sA s1.sent.length sc, .slice (some ⟨gb, 0, none⟩) s1.got.length s1.got.length] 46)) := ⟨_, rfl⟩
          have x0 : W6.cell? ⟨w5.heap.size, 0, none⟩ = some (.slice sA s1.sent.length sc) := by rw [HW6.out]; go_simp
          have x1 : W6.cell? ⟨w5.heap.size, 1, none⟩ = some (.slice (some ⟨gb, 0, none⟩) s1.got.length s1.got.length) := by rw [HW6.out]; go_simp
          have HB56 : Hid (Below w5.heap.size w5 W6) := by show Below _ _ _; rw [HW6.out]; exact (Below.refl _ _).alloc (Nat.le_refl _) _
          have HS6 : Hid (W6.heap.size = w5.heap.size + 1) := by show _ = _; rw [HW6.out]; simp
          have HBR6 : Hid (Below wr.heap.size wr W6) := HBR5.out.trans (HB56.out.mono HBR5.out.size)
          have HB6 : Hid (Below w.heap.size w W6) := HB3.out.trans (HBR6.out.mono HB3.out.size)
          have HX0 := Lib.hid x0; clear x0
          have HX1 := Lib.hid x1; clear x1
          have HINV := Lib.hid hinv; clear hinv
          have HGL := Lib.hid hgl; clear hgl
          have HINV2 := Lib.hid hinv2; clear hinv2
          have HGL2 := Lib.hid hgl2; clear hgl2
          have HSG := Lib.hid hsg; clear hsg
          have HSS := Lib.hid hss; clear hss
          have hnew2 := new_any n fv fs W6 (HF.out.below (by omega) HB6.out) (by omega)
          rw [HON.out] at hnew2
          have HNEW := Lib.hid hnew2; clear hnew2
          go_wp2_with fail
          rw [← HW6.out]
          refine HNEW.out.mono ?_
          rintro e w7 ⟨hb7, ⟨hx, _⟩ | ⟨_, g2, F2, rfl, hr7, hF7⟩⟩
          · cases hx
          simp only [Int.toNat_natCast] at hr7
          have HB67 : Hid (Below W6.heap.size W6 w7) := hb7
          have HF7 : Hid (∀ k, F2 k → W6.heap.size ≤ k) := hF7
          have HBR7 : Hid (Below wr.heap.size wr w7) := HBR6.out.trans (hb7.mono HBR6.out.size)
          have HB7 : Hid (Below w.heap.size w w7) := HB3.out.trans (HBR7.out.mono HB3.out.size)
          have HR7 := Lib.hid hr7; clear hr7 hb7 hF7 HNEW
          have hp : Hid (Calls Try.prog 25 #[.pointer (some ⟨g2, 0, none⟩), .int .i64 n, fv, .slice A (l.filter (keepB hn)).length c] w7 (PlayPost F2 g2 ((St.start (Net.new n fs) n).run fs (l.filter (keepB hn))) w7)) :=
            play_any HR7.out (Net.new_ok hn1 hn12 HFOK.out) rfl n (by simp [Net.new]) fv (.slice A (l.filter (keepB hn)).length c) fs HFOK.out (l.filter (keepB hn)) (HF.out.x (by omega) HB7.out (fun k hk => Nat.le_trans HB6.out.size (HF7.out k hk))) (HARG.out.x (by omega) HBR7.out (fun k hk => Nat.le_trans HBR6.out.size (HF7.out k hk))) (by omega)
          go_wp2_with fail
          refine hp.out.mono ?_
          rintro e w8 ⟨sv, bb2, gb2, F3, G2, rfl, hout⟩
          clear hp
          generalize (St.start (Net.new n fs) n).run fs (l.filter (keepB hn)) = s2 at hout HINV2 HGL2 HSG HSS ⊢
          obtain ⟨_, sblk2, vs2, gblk2, hbk⟩ := hout.book
          have hsv := hbk.c0.symm.trans hout.sv
          injection hsv with hsv
          subst hsv
          obtain ⟨sA2, sc2, rfl, _⟩ := hbk.sentR.src (one_flatP _)
          have hssr2 := hbk.sentR.arg (one_flatP _)
          have HB68 : Hid (Below W6.heap.size W6 w8) := HB67.out.trans (hout.upd.below HB67.out.size HF7.out)
          have HBK2 := Lib.hid hbk; clear hbk
          have HSSR2 := Lib.hid hssr2; clear hssr2
          clear hout
          obtain ⟨W9, HW9⟩ : ∃ W9, Hid (W9 = w8.alloc (.cells #[.slice sA2 s2.sent.length sc2, .slice (some ⟨gb2, 0, none⟩) s2.got.length s2.got.length] 46)) := ⟨_, rfl⟩
          have z0 : W9.cell? ⟨w8.heap.size, 0, none⟩ = some (.slice sA2 s2.sent.length sc2) := by rw [HW9.out]; go_simp
          have z1 : W9.cell? ⟨w8.heap.size, 1, none⟩ = some (.slice (some ⟨gb2, 0, none⟩) s2.got.length s2.got.length) := by rw [HW9.out]; go_simp
          have HB89 : Hid (Below w8.heap.size w8 W9) := by show Below _ _ _; rw [HW9.out]; exact (Below.refl _ _).alloc (Nat.le_refl _) _
          have HB69 : Hid (Below W6.heap.size W6 W9) := HB68.out.trans (HB89.out.mono HB68.out.size)
          have HB59 : Hid (Below w5.heap.size w5 W9) := HB56.out.trans (HB69.out.mono HB56.out.size)
          have x0 : W9.cell? ⟨w5.heap.size, 0, none⟩ = some (.slice sA s1.sent.length sc) := (HB69.out.cell (p := ⟨w5.heap.size, 0, none⟩) (by simp only; rw [HS6.out]; omega)).trans HX0.out
          have x1 : W9.cell? ⟨w5.heap.size, 1, none⟩ = some (.slice (some ⟨gb, 0, none⟩) s1.got.length s1.got.length) := (HB69.out.cell (p := ⟨w5.heap.size, 1, none⟩) (by simp only; rw [HS6.out]; omega)).trans HX1.out
          obtain ⟨gA, gc, hgr⟩ := book_reads HBK.out hn (by rw [HGL.out]; exact hhn)
          obtain ⟨gA2, gc2, hgr2⟩ := book_reads HBK2.out hn (by rw [HGL2.out]; exact hhn)
          obtain ⟨u1, hsr1⟩ := hgr _ HB59.out
          obtain ⟨u2, hsr2⟩ := hgr2 _ HB89.out
          obtain ⟨_, _, hv1, hst1, _⟩ := HSSR.out.below (by omega) HB59.out
          injection hv1 with hv1 _ hv1c
          subst hv1 hv1c
          obtain ⟨_, _, hv2, hst2, _⟩ := HSSR2.out.below (by omega) HB89.out
          injection hv2 with hv2 _ hv2c
          subst hv2 hv2c
          have hl1 : (s1.got.getD hn []).length ≤ 4000000 := getD_le (fun x hx => by have := HINV.out.got x hx; omega) hn
          have hl2 : (s2.got.getD hn []).length ≤ 4000000 := getD_le (fun x hx => by have := HINV2.out.got x hx; omega) hn
          have hl3 : s1.sent.length ≤ 10000 := by have := HINV.out.sent; omega
          have hl4 : s2.sent.length ≤ 10000 := by have := HINV2.out.sent; omega
          have hq1 : Hid (∀ nq, Calls Try.prog 18 #[.slice gA (s1.got.getD hn []).length gc, .slice gA2 (s2.got.getD hn []).length gc2] (W9.drewN nq) fun e w' => e = .returned (.bool true) ∧ ∃ n, w' = (W9.drewN nq).drewN n) := fun nq => by
            have h1 := packets_any gA gA2 (s1.got.getD hn []).length (s2.got.getD hn []).length gc gc2 (W9.drewN nq) _ _ rfl rfl hsr1 hsr2 (by omega) (by omega)
            rw [(sameList_iff _ _).2 HSG.out] at h1
            exact h1
          have hq2 : Hid (∀ nq, Calls Try.prog 18 #[.slice sA s1.sent.length sc, .slice sA2 s2.sent.length sc2] (W9.drewN nq) fun e w' => e = .returned (.bool true) ∧ ∃ n, w' = (W9.drewN nq).drewN n) := fun nq => by
            have h1 := packets_any sA sA2 s1.sent.length s2.sent.length sc sc2 (W9.drewN nq) _ _ rfl rfl hst1 hst2 (by omega) (by omega)
            rw [(sameList_iff _ _).2 HSS.out] at h1
            exact h1
          rw [HGL.out] at x1
          rw [HGL2.out] at z1
          clear hgr hgr2 hsr1 hsr2 hst1 hst2
          generalize (s1.got.getD hn []).length = n1 at u1 hq1
          generalize (s2.got.getD hn []).length = n2 at u2 hq1
          have i0 : (0 : Int) ≤ (hn : Int) := by omega
          have i1 : (hn : Int) < (n : Int) := by omega
          go_wp2_with fail
          rw [← HW9.out]
          go_quiet ((first | (go_at_call_of 18 (Value.slice gA n1 gc); exact Calls.quiet_of (hq1.out _)) | (go_at_call_of 18 (Value.slice sA s1.sent.length sc); exact Calls.quiet_of (hq2.out _))))
          go_wp2_with fail
          go_ret
          exact ⟨rfl, (HB6.out.trans (HB69.out.mono HB6.out.size)).trans ⟨rfl, rfl, rfl, Nat.le_refl _, fun _ _ => rfl⟩⟩
end Go.Proofs.Ytfpiiehdmdmoeaa
