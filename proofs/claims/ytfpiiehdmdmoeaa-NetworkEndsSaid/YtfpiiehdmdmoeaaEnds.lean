/-
  The walk of NetworkEnds.
-/
import Derived.Test.YtfpiiehdmdmoeaaOps
import Derived.Test.YtfpiiehdmdmoeaaPureC
namespace Go.Proofs.Ytfpiiehdmdmoeaa
open Go.RowKit

theorem append_ops {wr : World} {A : Option Addr} {m c : Nat} {xs : List Value} {blk : Option Nat} (hrow : RowAt wr 33 5 (.slice A m c) m xs blk) {B : Option Addr} {k d : Nat} {news : List Value} (hs : Src wr 5 B k news) (hm : m + k ≤ 10000) :
    ∃ A' c' w' blk', (Builtin.append_ #[23, 23] 23 #[.slice A m c, .slice B k d]).run Try.prog wr = .ok (.slice A' (m + k) c') w' ∧
      RowAt w' 33 5 (.slice A' (m + k) c') (m + k) (xs ++ news) blk' ∧ Upd (fun i => blk = some i) wr w' ∧ (blk' = blk ∨ ∃ i, blk' = some i ∧ wr.heap.size ≤ i) := by
  obtain ⟨i1, hi1, hy0, hy1, hy2⟩ := info_parts info33
  obtain ⟨v2, w2, blk2, hrun, hrow2, hu2, hb2⟩ := run_append_row (P := Try.prog) wr 23 23 33 i1 _ 5 48 Try.underlying23 hi1 hy0 hy1 hy2 rfl (.slice A m c) m _ blk hrow B k d news hs (by unfold maxLen; omega) (by omega)
  obtain ⟨A2, c2, rfl, _, _⟩ := hrow2.val
  exact ⟨A2, c2, w2, blk2, hrun, hrow2, hu2, hb2⟩

theorem RowAt.argx {w : World} {e : TypeId} {size n c : Nat} {A : Option Addr} {xs : List Value} {blk : Option Nat} (h : RowAt w e size (.slice A n c) n xs blk) (h1 : ∀ u ∈ xs, u.oneCell' = true) {F0 : Nat → Prop} (hF : ∀ k, blk = some k → ¬ F0 k) : ArgX w F0 size (.slice A n c) n xs := by
  obtain ⟨A2, c2, hv, hs, hn⟩ := h.arg h1
  refine ⟨A2, c2, hv, hs, hn, fun ad hA hlt => ?_⟩
  injection hv with e1 _ _
  subst e1
  rcases h.2 with ⟨_, hn0, _⟩ | ⟨g, off, cap, cur, hb, hv, _⟩
  · omega
  · injection hv with hA2
    rw [hA] at hA2
    injection hA2 with hA2
    subst hA2
    exact hF g hb

set_option maxRecDepth 100000 in
set_option maxHeartbeats 2000000 in
theorem ends_walk (h : Int) (fv lv : Value) (fs : List Fate) (l : List Opn) (w : World) (hf : Arg w 3 fv fs.length (flatF fs)) (hl : Arg w 5 lv l.length (flatO l)) (hll : l.length ≤ 9223372036854775807) :
    Calls Try.prog 6 #[.int .i64 h, fv, lv] w (RetB (.bool true) w) := by
  have HF := Lib.hid hf; clear hf
  have HL := Lib.hid hl; clear hl
  go_enter Try.func6, Try.ntmps6
  go_wp2_with fail
  refine (head_any w).mono ?_
  rintro e w1 ⟨rfl, hb1⟩
  have HB1 := Lib.hid hb1; clear hb1
  have hs : Hid (Calls Try.prog 23 #[fv, lv] w1 (Ret (.bool (smallB fs l)) w1)) := small_any fv lv fs l w1 (HF.out.below (by omega) HB1.out) (HL.out.below (by omega) HB1.out) hll
  go_wp2_with fail
  refine hs.out.mono ?_
  rintro e w' ⟨rfl, rfl⟩
  clear hs
  cases hsm : smallB fs l with
  | false =>
    clear hll
    go_wp2_with fail
    go_ret
    exact ⟨rfl, HB1.out⟩
  | true =>
    obtain ⟨hf60, hl200⟩ := smallB_yes hsm
    clear hll
    have hg : Hid (Calls Try.prog 24 #[.int .i64 h, fv] w1 (RetB (.bool (okNew h fs)) w1)) := good_any h fv fs w1 (HF.out.below (by omega) HB1.out) (by omega)
    go_wp2_with fail
    refine hg.out.mono ?_
    rintro e w2 ⟨rfl, hb2⟩
    have HB2 : Hid (Below w.heap.size w w2) := HB1.out.trans (hb2.mono HB1.out.size)
    clear hg hb2 HB1
    cases hon : okNew h fs with
    | false =>
      go_wp2_with fail
      go_ret
      exact ⟨rfl, HB2.out⟩
    | true =>
      obtain ⟨n, rfl, hn1, hn12, hfok⟩ := okNew_yes hon
      have hnew := new_any n fv fs w2 (HF.out.below (by omega) HB2.out) (by omega)
      rw [hon] at hnew
      have HNEW := Lib.hid hnew; clear hnew
      have HFOK := Lib.hid hfok; clear hfok hon hsm
      go_wp2_with fail
      refine HNEW.out.mono ?_
      rintro e w3 ⟨hb3, ⟨hx, _⟩ | ⟨_, g, F0, rfl, hr3, hF3⟩⟩
      · cases hx
      simp only [Int.toNat_natCast] at hr3
      have HB3 : Hid (Below w.heap.size w w3) := HB2.out.trans (hb3.mono HB2.out.size)
      have HF3 : Hid (∀ k, F0 k → w.heap.size ≤ k) := fun k hk => Nat.le_trans HB2.out.size (hF3 k hk)
      have HR3 := Lib.hid hr3; clear hr3 hb3 hF3 HNEW
      obtain ⟨lA, lc, rfl, hls, hln⟩ := HL.out.below (by omega) HB3.out
      have hls1 : Src (w3.alloc (.cells #[] 33)) 5 lA l.length (flatO l) := hls.below (by omega) ((Below.refl _ _).alloc (Nat.le_refl _) _)
      obtain ⟨A1, c1, w4, blk1, hrun1, hrow1, hu1, hb1⟩ := append_ops (RowAt.newCap w3 33 5 #[] 0 (Nat.zero_le _) rfl) (d := lc) hls1 (by omega)
      rw [Nat.zero_add, List.nil_append] at hrow1
      rw [Nat.zero_add] at hrun1
      have HB34 : Hid (Below w3.heap.size w3 w4) := ((Below.refl _ _).alloc (Nat.le_refl _) _).trans (hu1.below (by simp) (fun k hk => by injection hk with hk; omega))
      have HNB1 : Hid (∀ k, blk1 = some k → w3.heap.size ≤ k) := fun k hk => by
        rcases hb1 with e | ⟨i, e, hi⟩
        · rw [e] at hk; injection hk with hk; omega
        · rw [e] at hk; injection hk with hk; simp at hi; omega
      have HRUN1 := Lib.hid hrun1; clear hrun1
      have HROW1 := Lib.hid hrow1; clear hrow1
      clear hls1 hu1 hb1 hls hln
      go_wp2_with (at_builtin; refine wpList_append_run rfl _ _ _ _ rfl _ _ rfl rfl HRUN1.out ?_)
      go_loopg [9, 10] 100 (fun gk v i wr => ∃ (j m : Nat) (A : Option Addr) (c : Nat) (blk : Option Nat), gk = 100 - j ∧ j ≤ 100 ∧ i = .int .i64 j ∧ m = l.length + j ∧ v = .slice A m c ∧ RowAt wr 33 5 (.slice A m c) m (flatO (l ++ List.replicate j stepOp)) blk ∧ (∀ k, blk = some k → w3.heap.size ≤ k) ∧ Below w3.heap.size w3 wr)
      case atStart => exact ⟨0, l.length, A1, c1, blk1, rfl, by omega, rfl, rfl, rfl, by rw [List.replicate_zero, List.append_nil]; exact HROW1.out, HNB1.out, HB34.out⟩
      case round =>
        obtain ⟨j, m, A, c, blk, hgk, hj, rfl, hm, rfl, hrow, hnb, hbw⟩ := hrel
        have HGK := Lib.hid hgk; clear hgk
        have HM := Lib.hid hm
        have hm1 : m ≤ 300 := by omega
        clear hm
        by_cases hlt : j < 100
        · obtain ⟨A', c', w', blk', hrun0, hrow', hu', hb'⟩ := append_op hrow stepOp (by omega)
          have hrun : (Builtin.append_ #[23, 23] 23 #[.slice A m c, .slice (some ⟨wr.heap.size, 0, none⟩) 1 1]).run Try.prog (wr.alloc (.cells #[.int .i64 2, .int .i64 0, .int .i64 0, .int .i64 0, .string ByteArray.empty] 33)) = .ok (.slice A' (m + 1) c') w' := hrun0
          have HR : Hid (RowAt w' 33 5 (.slice A' (m + 1) c') (m + 1) (flatO (l ++ List.replicate (j + 1) stepOp)) blk' ∧ (∀ i, blk' = some i → w3.heap.size ≤ i) ∧ Below w3.heap.size w3 w') := by
            have hsz := hbw.size
            refine ⟨?_, fun i hi => ?_, hbw.trans (hu'.below hsz (fun i hi => hnb i hi))⟩
            · rw [List.replicate_succ', ← List.append_assoc]
              exact hrow'
            · rcases hb' with e | ⟨i2, e, hi2⟩
              · exact hnb i (e ▸ hi)
              · rw [e] at hi; injection hi with hi; omega
          have HRUN := Lib.hid hrun; clear hrun hrun0
          clear hrow hnb hbw hrow' hu' hb'
          go_wp2_with (at_builtin; refine wpList_append_run rfl _ _ _ _ rfl _ _ rfl rfl HRUN.out ?_)
          go_roundg (100 - (j + 1))
          case measure => rw [HGK.out]; omega
          case rel => exact ⟨j + 1, m + 1, A', c', blk', rfl, by omega, by go_num, by rw [HM.out]; omega, rfl, HR.out.1, HR.out.2.1, HR.out.2.2⟩
        · have hj : j = 100 := by omega
          subst hj
          clear hlt
          have HROWa := Lib.hid hrow; clear hrow
          have HNBa := Lib.hid hnb; clear hnb
          have HBWa := Lib.hid hbw; clear hbw
          obtain ⟨wo, rfl⟩ : ∃ wo : World, wo = wr := ⟨_, rfl⟩
          go_wp2_with fail
          go_loopg [9, 11] n (fun gk v i wr => ∃ (j m : Nat) (A : Option Addr) (c : Nat) (blk : Option Nat), gk = n - j ∧ j ≤ n ∧ i = .int .i64 j ∧ m = l.length + 100 + j ∧ v = .slice A m c ∧ RowAt wr 33 5 (.slice A m c) m (flatO (l ++ List.replicate 100 stepOp ++ (List.range j).map recvOp)) blk ∧ (∀ k, blk = some k → w3.heap.size ≤ k) ∧ Below w3.heap.size w3 wr)
          case atStart => exact ⟨0, m, A, c, blk, rfl, by omega, rfl, by rw [HM.out], rfl, by rw [List.range_zero, List.map_nil, List.append_nil]; exact HROWa.out, HNBa.out, HBWa.out⟩
          case round =>
            clear HROWa HNBa HBWa HM HGK hm1
            obtain ⟨j, m, A, c, blk, hgk, hj, rfl, hm, rfl, hrow, hnb, hbw⟩ := hrel
            have HGK := Lib.hid hgk; clear hgk
            have HM := Lib.hid hm
            have hm1 : m ≤ 400 := by omega
            clear hm
            by_cases hlt : j < n
            · obtain ⟨A', c', w', blk', hrun0, hrow', hu', hb'⟩ := append_op hrow (recvOp j) (by omega)
              have hrun : (Builtin.append_ #[23, 23] 23 #[.slice A m c, .slice (some ⟨wr.heap.size, 0, none⟩) 1 1]).run Try.prog (wr.alloc (.cells #[.int .i64 1, .int .i64 j, .int .i64 0, .int .i64 0, .string ByteArray.empty] 33)) = .ok (.slice A' (m + 1) c') w' := hrun0
              have HR : Hid (RowAt w' 33 5 (.slice A' (m + 1) c') (m + 1) (flatO (l ++ List.replicate 100 stepOp ++ (List.range (j + 1)).map recvOp)) blk' ∧ (∀ i, blk' = some i → w3.heap.size ≤ i) ∧ Below w3.heap.size w3 w') := by
                have hsz := hbw.size
                refine ⟨?_, fun i hi => ?_, hbw.trans (hu'.below hsz (fun i hi => hnb i hi))⟩
                · rw [List.range_succ, List.map_append, ← List.append_assoc]
                  exact hrow'
                · rcases hb' with e | ⟨i2, e, hi2⟩
                  · exact hnb i (e ▸ hi)
                  · rw [e] at hi; injection hi with hi; omega
              have HRUN := Lib.hid hrun; clear hrun hrun0
              clear hrow hnb hbw hrow' hu' hb'
              go_wp2_with (at_builtin; refine wpList_append_run rfl _ _ _ _ rfl _ _ rfl rfl HRUN.out ?_)
              go_roundg (n - (j + 1))
              case measure => rw [HGK.out]; omega
              case rel => exact ⟨j + 1, m + 1, A', c', blk', rfl, by omega, by go_num, by rw [HM.out]; omega, rfl, HR.out.1, HR.out.2.1, HR.out.2.2⟩
            · obtain rfl : n = j := by omega
              clear hlt
              have hML : m = (moreOps l n).length := by rw [HM.out]; simp [moreOps]; omega
              subst hML
              have hrow2 : RowAt wr 33 5 (.slice A (moreOps l n).length c) (moreOps l n).length (flatO (moreOps l n)) blk := hrow
              have HBR : Hid (Below w.heap.size w wr) := HB3.out.trans (hbw.mono HB3.out.size)
              have HRr : Hid (NetRep wr F0 g (Net.new n fs)) := HR3.out.keep (Upd.of_below hbw) (fun k hk hc => by have := HR3.out.lt k hk; omega)
              have hp : Hid (Calls Try.prog 25 #[.pointer (some ⟨g, 0, none⟩), .int .i64 n, fv, .slice A (moreOps l n).length c] wr (PlayPost F0 g ((St.start (Net.new n fs) n).run fs (moreOps l n)) wr)) :=
                play_any HRr.out (Net.new_ok hn1 hn12 HFOK.out) rfl n (by simp [Net.new]) fv (.slice A (moreOps l n).length c) fs HFOK.out (moreOps l n) (HF.out.x (by omega) HBR.out HF3.out) (hrow2.argx (one_flatO _) (fun k hk hc => by have h1 := hnb k hk; have h2 := HR3.out.lt k hc; omega)) (by omega)
              obtain ⟨hw0, hsum, hcnt⟩ := ends HFOK.out hn1 hn12 l hl200 rfl
              obtain ⟨hinv, hgl⟩ := pst_inv (N := Net.new n fs) (houses := n) (fates := fs) (l := moreOps l n) HFOK.out (Net.new_ok hn1 hn12 HFOK.out) rfl (by simp [Net.new]) (by omega) (moreOps l n).length (Nat.le_refl _)
              rw [pst_end] at hinv hgl
              generalize (St.start (Net.new n fs) n).run fs (moreOps l n) = s at hp hw0 hsum hcnt hinv hgl
              have hsn0 := hinv.sent
              have hgt : ∀ x ∈ s.got, x.length ≤ 4000000 := fun x hx => by have := hinv.got x hx; omega
              have hsn : s.sent.length ≤ 4000 := by omega
              clear hsn0 HM
              generalize (moreOps l n).length = ml at hp hm1 ⊢
              have HW0 := Lib.hid hw0; clear hw0
              have HSUM := Lib.hid hsum; clear hsum
              have HCNT := Lib.hid hcnt; clear hcnt
              have HINV := Lib.hid hinv; clear hinv
              have HGL := Lib.hid hgl; clear hgl
              have HGT := Lib.hid hgt; clear hgt
              clear hrow hrow2 hnb hbw
              go_wp2_with fail
              refine hp.out.mono ?_
              rintro e w4 ⟨sv, bb, gb, F, G, rfl, hout⟩
              clear hp
              have HB4 : Hid (Below w.heap.size w w4) := HBR.out.trans (hout.upd.below HBR.out.size HF3.out)
              obtain ⟨_, sblk, vs, gblk, hbk⟩ := hout.book
              have hsv := hbk.c0.symm.trans hout.sv
              injection hsv with hsv
              subst hsv
              obtain ⟨sA, sc, rfl, _, _⟩ := hbk.sentR.val
              obtain ⟨W5, HW5⟩ : ∃ W5, Hid (W5 = w4.alloc (.cells #[.slice sA s.sent.length sc, .slice (some ⟨gb, 0, none⟩) s.got.length s.got.length] 46)) := ⟨_, rfl⟩
              have x0 : W5.cell? ⟨w4.heap.size, 0, none⟩ = some (.slice sA s.sent.length sc) := by rw [HW5.out]; go_simp
              have x1 : W5.cell? ⟨w4.heap.size, 1, none⟩ = some (.slice (some ⟨gb, 0, none⟩) s.got.length s.got.length) := by rw [HW5.out]; go_simp
              have HB5 : Hid (Below w4.heap.size w4 W5) := by show Below _ _ _; rw [HW5.out]; exact (Below.refl _ _).alloc (Nat.le_refl _) _
              have HS5 : Hid (W5.heap.size = w4.heap.size + 1) := by show _ = _; rw [HW5.out]; simp
              obtain ⟨sA2, sc2, hsv2, hssrc⟩ := hbk.sentR.src (one_flatP _)
              injection hsv2 with hsv2 _ hsv3
              subst hsv2 hsv3
              rw [HGL.out] at x1
              have HX : Hid (∀ W : World, Below W5.heap.size W5 W → W.cell? ⟨w4.heap.size, 0, none⟩ = some (.slice sA s.sent.length sc) ∧ W.cell? ⟨w4.heap.size, 1, none⟩ = some (.slice (some ⟨gb, 0, none⟩) n n) ∧ Below w4.heap.size w4 W) := fun W hW =>
                ⟨(hW.cell (p := ⟨w4.heap.size, 0, none⟩) (by simp only; rw [HS5.out]; omega)).trans x0, (hW.cell (p := ⟨w4.heap.size, 1, none⟩) (by simp only; rw [HS5.out]; omega)).trans x1, HB5.out.trans (hW.mono HB5.out.size)⟩
              have hrc : Hid (∀ W : World, Below w4.heap.size w4 W → Calls Try.prog 27 #[.agg #[.slice sA s.sent.length sc, .slice (some ⟨gb, 0, none⟩) n n]] W (RetB (.int .i64 s.sent.length) W)) := fun W hW => by
                have := received_any (⟨_, _, _, _, hbk.keep (Upd.of_below hW) (fun k hk hc => by have := hbk.lt k hk; omega)⟩ : BookRep W G bb gb s.sent s.got) sA s.sent.length sc (by rw [HGL.out]; omega) HGT.out
                rw [HGL.out, HSUM.out] at this
                exact this
              have hwt : Hid (∀ W : World, Below w4.heap.size w4 W → Calls Try.prog 21 #[.pointer (some ⟨g, 0, none⟩)] W (Ret (.int .i64 0) W)) := fun W hW => by
                have := waiting_net (hout.net.keep (Upd.of_below hW) (fun k hk hc => by have := hout.net.lt k hk; omega))
                rw [HW0.out] at this
                exact this
              have HBK := Lib.hid hbk; clear hbk
              have HOUT := Lib.hid hout; clear hout
              have HSS := Lib.hid hssrc; clear hssrc
              go_wp2_with fail
              rw [HGL.out]
              rw [← (show W5 = w4.alloc (.cells #[.slice sA s.sent.length sc, .slice (some ⟨gb, 0, none⟩) n n] 46) by rw [HW5.out, HGL.out])]
              have dn : (((s.sent.length : Nat) : Int) != (s.sent.length : Int)) = false := by simp
              go_region_held3 (fun W => W.cell? ⟨w4.heap.size, 0, none⟩ = some (.slice sA s.sent.length sc) ∧ W.cell? ⟨w4.heap.size, 1, none⟩ = some (.slice (some ⟨gb, 0, none⟩) n n)) (first | exact ⟨x0, x1⟩ | exact ⟨(HX.out _ (Below.refl _ _).drew).1, (HX.out _ (Below.refl _ _).drew).2.1⟩ | exact ⟨(HX.out _ HZ1.out).1, (HX.out _ HZ1.out).2.1⟩) (first
                | (go_at_call 21; refine (hwt.out _ HB5.out.drew).mono ?_; rintro e w7 ⟨rfl, rfl⟩)
                | (go_at_call 27; refine (hrc.out _ HB5.out.drew).mono ?_; rintro e z1 ⟨rfl, hz1⟩; have HZ1 : Hid (Below W5.heap.size W5 z1) := ((Below.refl _ W5).drew).trans hz1; clear hz1))
              all_goals
                go_wp2_with fail
                go_loopg [13] s.sent.length (fun gk2 v wx => ∃ j : Nat, gk2 = s.sent.length - j ∧ j ≤ s.sent.length ∧ v = .int .i64 j ∧ Below W5.heap.size W5 wx)
                case atStart => exact ⟨0, rfl, Nat.zero_le _, rfl, HZ1.out⟩
                case round =>
                  obtain ⟨j, hgk2, hj, rfl, hbx⟩ := hrel
                  have HGK2 := Lib.hid hgk2; clear hgk2
                  obtain ⟨y0, y1, hb4x⟩ := HX.out _ hbx
                  have hss := HSS.out.below (by omega) hb4x
                  by_cases hlt2 : j < s.sent.length
                  · obtain ⟨b, off, hA, hbl, hcell⟩ := hss.form (by omega) (by omega)
                    subst hA
                    obtain ⟨p, hpj⟩ : ∃ p, s.sent[j]? = some p := ⟨s.sent[j], List.getElem?_eq_getElem hlt2⟩
                    have hcw : ∀ k, k < 3 → wr.cell? ⟨b, off + j * 3 + k, none⟩ = p.cells[k]? := fun k hk => by
                      rw [Nat.add_assoc, hcell _ (by omega)]
                      exact get_flat _ 3 (fun _ => rfl) s.sent j k p hpj hk
                    obtain ⟨hhs, hcnt⟩ := HCNT.out p (List.mem_of_getElem? hpj)
                    obtain ⟨pa, pd, ps⟩ := p
                    obtain ⟨hd0, hd1⟩ := okHouse_yes hhs
                    simp only at hd0 hd1 hcnt
                    obtain ⟨i, rfl⟩ := Int.eq_ofNat_of_zero_le hd0
                    have hin : i < n := by omega
                    rw [Int.toNat_natCast] at hcnt
                    obtain ⟨gA, gc, hgr⟩ := book_reads HBK.out i (by rw [HGL.out]; exact hin)
                    have HGR := Lib.hid hgr; clear hgr
                    have hglen : (s.got.getD i []).length ≤ 4000000 := getD_le HGT.out i
                    generalize hgi : s.got.getD i [] = gi at HGR hglen hcnt
                    clear hgi hhs hd0 hd1
                    have hcs := count_le s.sent ⟨pa, i, ps⟩
                    have k0 : wr.cell? ⟨b, off + j * 3, none⟩ = some (.int .i64 pa) := hcw 0 (by omega)
                    have k1 : wr.cell? ⟨b, off + j * 3 + 1, none⟩ = some (.int .i64 i) := hcw 1 (by omega)
                    have k2 : wr.cell? ⟨b, off + j * 3 + 2, none⟩ = some (.string ps) := hcw 2 (by omega)
                    clear hcw
                    obtain ⟨Wp, HWp⟩ : ∃ Wp, Hid (Wp = wr.alloc (.cells #[.int .i64 pa, .int .i64 i, .string ps] 31)) := ⟨_, rfl⟩
                    have HBp : Hid (Below W5.heap.size W5 Wp) := by show Below _ _ _; rw [HWp.out]; exact hbx.alloc hbx.size _
                    have HSp : Hid (Wp.heap.size = wr.heap.size + 1) := by show _ = _; rw [HWp.out]; simp
                    have q0 : Wp.cell? ⟨wr.heap.size, 0, none⟩ = some (.int .i64 pa) := by rw [HWp.out]; go_simp
                    have q1 : Wp.cell? ⟨wr.heap.size, 1, none⟩ = some (.int .i64 i) := by rw [HWp.out]; go_simp
                    have q2 : Wp.cell? ⟨wr.heap.size, 2, none⟩ = some (.string ps) := by rw [HWp.out]; go_simp
                    have SK : Hid (∀ W : World, Below Wp.heap.size Wp W → W.cell? ⟨wr.heap.size, 0, none⟩ = some (.int .i64 pa) ∧ W.cell? ⟨wr.heap.size, 1, none⟩ = some (.int .i64 i) ∧ W.cell? ⟨wr.heap.size, 2, none⟩ = some (.string ps) ∧ W.cell? ⟨w4.heap.size, 0, none⟩ = some (.slice (some ⟨b, off, none⟩) s.sent.length sc) ∧ W.cell? ⟨w4.heap.size, 1, none⟩ = some (.slice (some ⟨gb, 0, none⟩) n n) ∧ W.cell? ⟨gb, i, none⟩ = some (.slice gA gi.length gc)) := fun W hW => by
                      have hW2 : Below W5.heap.size W5 W := HBp.out.trans (hW.mono HBp.out.size)
                      obtain ⟨u0, u1, u2⟩ := HX.out _ hW2
                      exact ⟨(hW.cell (p := ⟨wr.heap.size, 0, none⟩) (by simp only; rw [HSp.out]; omega)).trans q0, (hW.cell (p := ⟨wr.heap.size, 1, none⟩) (by simp only; rw [HSp.out]; omega)).trans q1, (hW.cell (p := ⟨wr.heap.size, 2, none⟩) (by simp only; rw [HSp.out]; omega)).trans q2, u0, u1, (HGR.out _ u2).1⟩
                    have CG : Hid (∀ W : World, Below Wp.heap.size Wp W → Calls Try.prog 26 #[.slice gA gi.length gc, .agg #[.int .i64 pa, .int .i64 i, .string ps]] W (RetB (.int .i64 (count s.sent ⟨pa, i, ps⟩)) W)) := fun W hW => by
                      have hW2 : Below W5.heap.size W5 W := HBp.out.trans (hW.mono HBp.out.size)
                      rw [← hcnt]
                      exact count_any gA gi.length gc W gi ⟨pa, i, ps⟩ rfl (HGR.out _ (HX.out _ hW2).2.2).2 (by omega)
                    have CS : Hid (∀ W : World, Below Wp.heap.size Wp W → Calls Try.prog 26 #[.slice (some ⟨b, off, none⟩) s.sent.length sc, .agg #[.int .i64 pa, .int .i64 i, .string ps]] W (RetB (.int .i64 (count s.sent ⟨pa, i, ps⟩)) W)) := fun W hW => by
                      have hW2 : Below W5.heap.size W5 W := HBp.out.trans (hW.mono HBp.out.size)
                      exact count_any (some ⟨b, off, none⟩) s.sent.length sc W s.sent ⟨pa, i, ps⟩ rfl (HSS.out.below (by omega) (HX.out _ hW2).2.2) (by omega)
                    clear hcnt
                    generalize count s.sent ⟨pa, i, ps⟩ = cs at CG CS hcs
                    have d1 : decide (((i : Nat) : Int) < 0) = false := by simp
                    have d2 : decide ((n : Int) ≤ (i : Int)) = false := by simp; omega
                    have d2b : decide (n ≤ i) = false := by simp; omega
                    have d3 : (((cs : Nat) : Int) != (cs : Int)) = false := by simp
                    have hi1 : (i : Int) < (n : Int) := by omega
                    have HBX := Lib.hid hbx; clear hbx
                    have HB4X := Lib.hid hb4x; clear hb4x
                    have HSS2 := Lib.hid hss; clear hss
                    have HC := Lib.hid hcell; clear hcell
                    have HPJ := Lib.hid hpj; clear hpj
                    have hj1 : (j : Int) < (s.sent.length : Int) := by omega
                    go_wp2_with fail
                    rw [← HWp.out]
                    obtain ⟨q3, q4, q5⟩ := (SK.out Wp (Below.refl _ _)).2.2.2
                    clear k0 k1 k2 y0 y1
                    go_region_held3 (fun W => W.cell? ⟨wr.heap.size, 0, none⟩ = some (.int .i64 pa) ∧ W.cell? ⟨wr.heap.size, 1, none⟩ = some (.int .i64 i) ∧ W.cell? ⟨wr.heap.size, 2, none⟩ = some (.string ps) ∧ W.cell? ⟨w4.heap.size, 0, none⟩ = some (.slice (some ⟨b, off, none⟩) s.sent.length sc) ∧ W.cell? ⟨w4.heap.size, 1, none⟩ = some (.slice (some ⟨gb, 0, none⟩) n n) ∧ W.cell? ⟨gb, i, none⟩ = some (.slice gA gi.length gc)) (first | exact SK.out _ (Below.refl _ _).drew | exact SK.out _ HY1.out | exact SK.out _ HY2.out | exact ⟨q0, q1, q2, q3, q4, q5⟩) (first
                      | (go_at_call_of 26 (Value.slice gA gi.length gc); refine (CG.out _ ?_).mono ?_; (first | exact (Below.refl _ _).drew | exact HY2.out); rintro e z1 ⟨rfl, hz1⟩; have HY1 : Hid (Below Wp.heap.size Wp z1) := (by first | exact ((Below.refl _ Wp).drew).trans hz1 | exact HY2.out.trans (hz1.mono HY2.out.size)); clear hz1)
                      | (go_at_call_of 26 (Value.slice (some ⟨b, off, none⟩) s.sent.length sc); refine (CS.out _ ?_).mono ?_; (first | exact (Below.refl _ _).drew | exact HY1.out); rintro e z2 ⟨rfl, hz2⟩; have HY2 : Hid (Below Wp.heap.size Wp z2) := (by first | exact ((Below.refl _ Wp).drew).trans hz2 | exact HY1.out.trans (hz2.mono HY1.out.size)); clear hz2))
                    all_goals
                      go_wp2_with fail
                      go_roundg (s.sent.length - (j + 1))
                      case measure => rw [HGK2.out]; omega
                      case rel => exact ⟨j + 1, rfl, by omega, by go_num, HBp.out.trans (by first | exact HY2.out.mono HBp.out.size | exact HY1.out.mono HBp.out.size)⟩
                  · have hjn : j = s.sent.length := by omega
                    have HBX := Lib.hid hbx; clear hbx
                    have HB4X := Lib.hid hb4x; clear hb4x
                    have HSS2 := Lib.hid hss; clear hss
                    subst hjn
                    go_wp2_with fail
                    go_ret
                    exact ⟨rfl, (HB4.out.trans (HB5.out.mono HB4.out.size)).trans (HBX.out.mono (Nat.le_trans HB4.out.size HB5.out.size))⟩
end Go.Proofs.Ytfpiiehdmdmoeaa
