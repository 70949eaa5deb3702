/-
  The walk of NetworkInvents.
-/
import Derived.Test.YtfpiiehdmdmoeaaCons
import Derived.Test.YtfpiiehdmdmoeaaPureB
import Derived.Deep.RegionHeld3
import Derived.Deep.LoopGhost
namespace Go.Proofs.Ytfpiiehdmdmoeaa
open Go.RowKit

/-- What the loops over a book read, in every world in which nothing old has turned. -/
theorem book_reads {w : World} {G : Nat → Prop} {bb gb : Nat} {sent : List Pkt} {got : List (List Pkt)} {sv : Value} {sblk : Option Nat} {vs : List Value} {gblk : Nat → Option Nat} (hb : BookAt w G bb gb sent got sv sblk vs gblk) (h : Nat) (hh : h < got.length) :
    ∃ A c, ∀ W : World, Below w.heap.size w W → W.cell? ⟨gb, h, none⟩ = some (.slice A (got.getD h []).length c) ∧ Src W 3 A (got.getD h []).length (flatP (got.getD h [])) := by
  obtain ⟨A, c, hv, hs⟩ := (hb.gotR h hh).src (one_flatP _)
  refine ⟨A, c, fun W hW => ⟨?_, hs.below (by omega) hW⟩⟩
  rw [hW.cell (p := ⟨gb, h, none⟩) (lt_of_heap hb.row), hb.cg h hh, hv]

set_option maxRecDepth 100000 in
set_option maxHeartbeats 2000000 in
theorem inv_walk (h : Int) (fv lv : Value) (fs : List Fate) (l : List Opn) (w : World) (hf : Arg w 3 fv fs.length (flatF fs)) (hl : Arg w 5 lv l.length (flatO l)) (hll : l.length ≤ 9223372036854775807) :
    Calls Try.prog 4 #[.int .i64 h, fv, lv] w (RetB (.bool true) w) := by
  have HF := Lib.hid hf; clear hf
  have HL := Lib.hid hl; clear hl
  go_enter Try.func4, Try.ntmps4
  go_wp2_with fail
  refine (head_any w).mono ?_
  rintro e w1 ⟨rfl, hb1⟩
  have HB1 := Lib.hid hb1; clear hb1
  have hs : Hid (Calls Try.prog 23 #[fv, lv] w1 (Ret (.bool (smallB fs l)) w1)) := small_any fv lv fs l w1 (HF.out.below (by omega) HB1.out) (HL.out.below (by omega) HB1.out) hll
  go_wp2_with fail
  refine hs.out.mono ?_
  rintro e w' ⟨rfl, rfl⟩
  clear hs
  cases hsm : smallB fs l with
  | false =>
    clear hll
    go_wp2_with fail
    go_ret
    exact ⟨rfl, HB1.out⟩
  | true =>
    obtain ⟨hf60, hl200⟩ := smallB_yes hsm
    clear hll
    have hg : Hid (Calls Try.prog 24 #[.int .i64 h, fv] w1 (RetB (.bool (okNew h fs)) w1)) := good_any h fv fs w1 (HF.out.below (by omega) HB1.out) (by omega)
    go_wp2_with fail
    refine hg.out.mono ?_
    rintro e w2 ⟨rfl, hb2⟩
    have HB2 : Hid (Below w.heap.size w w2) := HB1.out.trans (hb2.mono HB1.out.size)
    clear hg hb2 HB1
    cases hon : okNew h fs with
    | false =>
      go_wp2_with fail
      go_ret
      exact ⟨rfl, HB2.out⟩
    | true =>
      obtain ⟨n, rfl, hn1, hn12, hfok⟩ := okNew_yes hon
      have hnew := new_any n fv fs w2 (HF.out.below (by omega) HB2.out) (by omega)
      rw [hon] at hnew
      have HNEW := Lib.hid hnew; clear hnew
      have HFOK := Lib.hid hfok; clear hfok hon hsm
      go_wp2_with fail
      refine HNEW.out.mono ?_
      rintro e w3 ⟨hb3, ⟨hx, _⟩ | ⟨_, g, F0, rfl, hr3, hF3⟩⟩
      · cases hx
      simp only [Int.toNat_natCast] at hr3
      have HB3 : Hid (Below w.heap.size w w3) := HB2.out.trans (hb3.mono HB2.out.size)
      have HF3 : Hid (∀ k, F0 k → w.heap.size ≤ k) := fun k hk => Nat.le_trans HB2.out.size (hF3 k hk)
      have HR3 := Lib.hid hr3; clear hr3
      have hp : Hid (Calls Try.prog 25 #[.pointer (some ⟨g, 0, none⟩), .int .i64 n, fv, lv] w3 (PlayPost F0 g ((St.start (Net.new n fs) n).run fs l) w3)) :=
        play_any HR3.out (Net.new_ok hn1 hn12 HFOK.out) rfl n (by simp [Net.new]) fv lv fs HFOK.out l (HF.out.x (by omega) HB3.out HF3.out) (HL.out.x (by omega) HB3.out HF3.out) (by omega)
      clear hb3 hF3 HNEW
      go_wp2_with fail
      refine hp.out.mono ?_
      rintro e w4 ⟨sv, bb, gb, F, G, rfl, hout⟩
      have htos := played_tos HFOK.out hn1 hn12 l (by omega)
      obtain ⟨hinv, hgl⟩ := pst_inv (N := Net.new n fs) (houses := n) (fates := fs) (l := l) HFOK.out (Net.new_ok hn1 hn12 HFOK.out) rfl (by simp [Net.new]) (by omega) l.length (Nat.le_refl _)
      rw [pst_end] at hinv hgl
      generalize (St.start (Net.new n fs) n).run fs l = s at hout htos hinv hgl ⊢
      have HB4 : Hid (Below w.heap.size w w4) := HB3.out.trans (hout.upd.below HB3.out.size HF3.out)
      obtain ⟨_, sblk, vs, gblk, hbk⟩ := hout.book
      have hsv := hbk.c0.symm.trans hout.sv
      injection hsv with hsv
      subst hsv
      obtain ⟨sA, sc, rfl, _, _⟩ := hbk.sentR.val
      have hw : s.net.waiting ≤ 4000 := hinv.ok.low
      have hsn : s.sent.length ≤ 9 * l.length := hinv.sent
      have hgt : ∀ x ∈ s.got, x.length ≤ 4000000 := fun x hx => by have := hinv.got x hx; omega
      obtain ⟨W5, HW5⟩ : ∃ W5, Hid (W5 = w4.alloc (.cells #[.slice sA s.sent.length sc, .slice (some ⟨gb, 0, none⟩) s.got.length s.got.length] 46)) := ⟨_, rfl⟩
      have x0 : W5.cell? ⟨w4.heap.size, 0, none⟩ = some (.slice sA s.sent.length sc) := by rw [HW5.out]; go_simp
      have x1 : W5.cell? ⟨w4.heap.size, 1, none⟩ = some (.slice (some ⟨gb, 0, none⟩) s.got.length s.got.length) := by rw [HW5.out]; go_simp
      have HB5 : Hid (Below w4.heap.size w4 W5) := by show Below _ _ _; rw [HW5.out]; exact (Below.refl _ _).alloc (Nat.le_refl _) _
      have HS5 : Hid (W5.heap.size = w4.heap.size + 1) := by show _ = _; rw [HW5.out]; simp
      obtain ⟨sA2, sc2, hsv2, hssrc⟩ := hbk.sentR.src (one_flatP _)
      injection hsv2 with hsv2 _ hsv3
      subst hsv2 hsv3
      have HX : Hid (∀ W : World, Below W5.heap.size W5 W → W.cell? ⟨w4.heap.size, 0, none⟩ = some (.slice sA s.sent.length sc) ∧ W.cell? ⟨w4.heap.size, 1, none⟩ = some (.slice (some ⟨gb, 0, none⟩) s.got.length s.got.length) ∧ Below w4.heap.size w4 W) := fun W hW =>
        ⟨(hW.cell (p := ⟨w4.heap.size, 0, none⟩) (by simp only; rw [HS5.out]; omega)).trans x0, (hW.cell (p := ⟨w4.heap.size, 1, none⟩) (by simp only; rw [HS5.out]; omega)).trans x1, HB5.out.trans (hW.mono HB5.out.size)⟩
      have HTOS := Lib.hid htos; clear htos
      have HBK := Lib.hid hbk; clear hbk
      have HOUT := Lib.hid hout; clear hout
      have HINV := Lib.hid hinv; clear hinv
      have HGT := Lib.hid hgt; clear hgt
      have HSS := Lib.hid hssrc; clear hssrc
      rw [hgl] at x1
      have HGL := Lib.hid hgl; clear hgl
      clear hp
      go_wp2_with fail
      rw [← HW5.out]
      go_loopg [9] n (fun gk v wr => ∃ i : Nat, gk = n - i ∧ i ≤ n ∧ v = .int .i64 i ∧ Below W5.heap.size W5 wr)
      case atStart => exact ⟨0, rfl, Nat.zero_le _, rfl, Below.refl _ _⟩
      case round =>
        obtain ⟨i, hgk, hi, rfl, hbw⟩ := hrel
        have HGK := Lib.hid hgk; clear hgk
        by_cases hlt : i < n
        · have hig : i < s.got.length := by rw [HGL.out]; exact hlt
          obtain ⟨gA, gc, hgr⟩ := book_reads HBK.out i hig
          have HGR := Lib.hid hgr; clear hgr
          have hglen : (s.got.getD i []).length ≤ 4000000 := getD_le HGT.out i
          generalize hgi : s.got.getD i [] = gi at HGR hglen
          have HGI := Lib.hid hgi; clear hgi
          have hi1 : (i : Int) < (n : Int) := by omega
          have HBW := Lib.hid hbw; clear hbw
          obtain ⟨wo, rfl⟩ : ∃ wo : World, wo = wr := ⟨_, rfl⟩
          go_wp2_with fail
          go_loopg [10] gi.length (fun gk2 v wx => ∃ j : Nat, gk2 = gi.length - j ∧ j ≤ gi.length ∧ v = .int .i64 j ∧ Below W5.heap.size W5 wx)
          case atStart => exact ⟨0, rfl, Nat.zero_le _, rfl, HBW.out⟩
          case round =>
            obtain ⟨j, hgk2, hj, rfl, hbx⟩ := hrel
            have HGK2 := Lib.hid hgk2; clear hgk2
            obtain ⟨y0, y1, hb4x⟩ := HX.out _ hbx
            rw [HGL.out] at y1
            obtain ⟨yg, hsrc⟩ := HGR.out _ hb4x
            have hss := HSS.out.below (by omega) hb4x
            by_cases hlt2 : j < gi.length
            · obtain ⟨b, off, hA, hbl, hcell⟩ := hsrc.form (by omega) (by omega)
              subst hA
              obtain ⟨p, hpj⟩ : ∃ p, gi[j]? = some p := ⟨gi[j], List.getElem?_eq_getElem hlt2⟩
              have hcw : ∀ k, k < 3 → wr.cell? ⟨b, off + j * 3 + k, none⟩ = p.cells[k]? := fun k hk => by
                rw [Nat.add_assoc, hcell _ (by omega)]
                exact get_flat _ 3 (fun _ => rfl) gi j k p hpj hk
              obtain ⟨hdst, hcnt⟩ := invents HTOS.out hig (p := p) (by rw [HGI.out]; exact List.mem_of_getElem? hpj)
              rw [HGI.out] at hcnt
              have hcl := count_le gi p
              have hcs := count_le s.sent p
              obtain ⟨pa, pb, ps⟩ := p
              simp only at hdst
              subst hdst
              have k0 : wr.cell? ⟨b, off + j * 3, none⟩ = some (.int .i64 pa) := hcw 0 (by omega)
              have k1 : wr.cell? ⟨b, off + j * 3 + 1, none⟩ = some (.int .i64 i) := hcw 1 (by omega)
              have k2 : wr.cell? ⟨b, off + j * 3 + 2, none⟩ = some (.string ps) := hcw 2 (by omega)
              clear hcw
              obtain ⟨Wp, HWp⟩ : ∃ Wp, Hid (Wp = wr.alloc (.cells #[.int .i64 pa, .int .i64 i, .string ps] 31)) := ⟨_, rfl⟩
              have HBp : Hid (Below W5.heap.size W5 Wp) := by show Below _ _ _; rw [HWp.out]; exact hbx.alloc hbx.size _
              have HSp : Hid (Wp.heap.size = wr.heap.size + 1) := by show _ = _; rw [HWp.out]; simp
              have q0 : Wp.cell? ⟨wr.heap.size, 0, none⟩ = some (.int .i64 pa) := by rw [HWp.out]; go_simp
              have q1 : Wp.cell? ⟨wr.heap.size, 1, none⟩ = some (.int .i64 i) := by rw [HWp.out]; go_simp
              have q2 : Wp.cell? ⟨wr.heap.size, 2, none⟩ = some (.string ps) := by rw [HWp.out]; go_simp
              have SK : Hid (∀ W : World, Below Wp.heap.size Wp W → W.cell? ⟨wr.heap.size, 0, none⟩ = some (.int .i64 pa) ∧ W.cell? ⟨wr.heap.size, 1, none⟩ = some (.int .i64 i) ∧ W.cell? ⟨wr.heap.size, 2, none⟩ = some (.string ps) ∧ W.cell? ⟨w4.heap.size, 0, none⟩ = some (.slice sA s.sent.length sc) ∧ W.cell? ⟨w4.heap.size, 1, none⟩ = some (.slice (some ⟨gb, 0, none⟩) n n) ∧ W.cell? ⟨gb, i, none⟩ = some (.slice (some ⟨b, off, none⟩) gi.length gc)) := fun W hW => by
                have hW2 : Below W5.heap.size W5 W := HBp.out.trans (hW.mono HBp.out.size)
                obtain ⟨u0, u1, u2⟩ := HX.out _ hW2
                rw [HGL.out] at u1
                exact ⟨(hW.cell (p := ⟨wr.heap.size, 0, none⟩) (by simp only; rw [HSp.out]; omega)).trans q0, (hW.cell (p := ⟨wr.heap.size, 1, none⟩) (by simp only; rw [HSp.out]; omega)).trans q1, (hW.cell (p := ⟨wr.heap.size, 2, none⟩) (by simp only; rw [HSp.out]; omega)).trans q2, u0, u1, (HGR.out _ u2).1⟩
              have CG : Hid (∀ W : World, Below Wp.heap.size Wp W → Calls Try.prog 26 #[.slice (some ⟨b, off, none⟩) gi.length gc, .agg #[.int .i64 pa, .int .i64 i, .string ps]] W (RetB (.int .i64 (count gi ⟨pa, i, ps⟩)) W)) := fun W hW => by
                have hW2 : Below W5.heap.size W5 W := HBp.out.trans (hW.mono HBp.out.size)
                exact count_any (some ⟨b, off, none⟩) gi.length gc W gi ⟨pa, i, ps⟩ rfl (HGR.out _ (HX.out _ hW2).2.2).2 (by omega)
              have CS : Hid (∀ W : World, Below Wp.heap.size Wp W → Calls Try.prog 26 #[.slice sA s.sent.length sc, .agg #[.int .i64 pa, .int .i64 i, .string ps]] W (RetB (.int .i64 (count s.sent ⟨pa, i, ps⟩)) W)) := fun W hW => by
                have hW2 : Below W5.heap.size W5 W := HBp.out.trans (hW.mono HBp.out.size)
                exact count_any sA s.sent.length sc W s.sent ⟨pa, i, ps⟩ rfl (HSS.out.below (by omega) (HX.out _ hW2).2.2) (by omega)
              generalize count gi ⟨pa, i, ps⟩ = cg at CG hcnt hcl
              generalize count s.sent ⟨pa, i, ps⟩ = cs at CS hcnt hcs
              have d1 : (((i : Nat) : Int) != (i : Int)) = false := by simp
              have d2 : decide ((cs : Int) < (cg : Int)) = false := by simp; omega
              have d3 : decide (cs < cg) = false := by simp; omega
              have HBX := Lib.hid hbx; clear hbx
              have HB4X := Lib.hid hb4x; clear hb4x
              have HSRC := Lib.hid hsrc; clear hsrc
              have HSS2 := Lib.hid hss; clear hss
              have HC := Lib.hid hcell; clear hcell
              have HPJ := Lib.hid hpj; clear hpj
              have hj1 : (j : Int) < (gi.length : Int) := by omega
              go_wp2_with fail
              rw [← HWp.out]
              obtain ⟨q3, q4, q5⟩ := (SK.out Wp (Below.refl _ _)).2.2.2
              clear k0 k1 k2 y0 y1 yg
              go_region_held3 (fun W => W.cell? ⟨wr.heap.size, 0, none⟩ = some (.int .i64 pa) ∧ W.cell? ⟨wr.heap.size, 1, none⟩ = some (.int .i64 i) ∧ W.cell? ⟨wr.heap.size, 2, none⟩ = some (.string ps) ∧ W.cell? ⟨w4.heap.size, 0, none⟩ = some (.slice sA s.sent.length sc) ∧ W.cell? ⟨w4.heap.size, 1, none⟩ = some (.slice (some ⟨gb, 0, none⟩) n n) ∧ W.cell? ⟨gb, i, none⟩ = some (.slice (some ⟨b, off, none⟩) gi.length gc)) (first | exact SK.out _ (Below.refl _ _).drew | exact SK.out _ HZ1.out | exact SK.out _ HZ2.out | exact ⟨q0, q1, q2, q3, q4, q5⟩) (first
                | (go_at_call_of 26 (Value.slice (some ⟨b, off, none⟩) gi.length gc); refine (CG.out _ ?_).mono ?_; (first | exact (Below.refl _ _).drew | exact HZ2.out); rintro e z1 ⟨rfl, hz1⟩; have HZ1 : Hid (Below Wp.heap.size Wp z1) := (by first | exact ((Below.refl _ Wp).drew).trans hz1 | exact HZ2.out.trans (hz1.mono HZ2.out.size)); clear hz1)
                | (go_at_call_of 26 (Value.slice sA s.sent.length sc); refine (CS.out _ ?_).mono ?_; (first | exact (Below.refl _ _).drew | exact HZ1.out); rintro e z2 ⟨rfl, hz2⟩; have HZ2 : Hid (Below Wp.heap.size Wp z2) := (by first | exact ((Below.refl _ Wp).drew).trans hz2 | exact HZ1.out.trans (hz2.mono HZ1.out.size)); clear hz2))
              all_goals
                go_wp2_with fail
                go_roundg (gi.length - (j + 1))
                case measure => rw [HGK2.out]; omega
                case rel => exact ⟨j + 1, rfl, by omega, by go_num, HBp.out.trans (by first | exact HZ2.out.mono HBp.out.size | exact HZ1.out.mono HBp.out.size)⟩
            · obtain rfl : gi.length = j := by omega
              have HBX := Lib.hid hbx; clear hbx
              have HB4X := Lib.hid hb4x; clear hb4x
              have HSRC := Lib.hid hsrc; clear hsrc
              have HSS2 := Lib.hid hss; clear hss
              go_wp2_with fail
              go_roundg (n - (i + 1))
              case measure => rw [HGK.out]; omega
              case rel => exact ⟨i + 1, rfl, by omega, by go_num, HBX.out⟩
        · obtain rfl : n = i := by omega
          have HBW := Lib.hid hbw; clear hbw
          go_wp2_with fail
          go_ret
          exact ⟨rfl, (HB4.out.trans (HB5.out.mono HB4.out.size)).trans (HBW.out.mono (Nat.le_trans HB4.out.size HB5.out.size))⟩
end Go.Proofs.Ytfpiiehdmdmoeaa
