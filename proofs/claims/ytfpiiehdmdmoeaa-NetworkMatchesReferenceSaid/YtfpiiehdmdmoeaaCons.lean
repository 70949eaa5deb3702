/-
  The walk of NetworkConserves.
-/
import Derived.Test.YtfpiiehdmdmoeaaPlayWalk
import Derived.Test.YtfpiiehdmdmoeaaHead
import Derived.Test.YtfpiiehdmdmoeaaRcvd
import Derived.Deep.RegionWith
namespace Go.Proofs.Ytfpiiehdmdmoeaa
open Go.RowKit

theorem Arg.x {w w' : World} {size n : Nat} {v : Value} {xs : List Value} (h : Arg w size v n xs) (hs : 0 < size) (hb : Below w.heap.size w w') {F0 : Nat → Prop} (hF : ∀ k, F0 k → w.heap.size ≤ k) : ArgX w' F0 size v n xs := by
  obtain ⟨A, c, hv, h1, h2⟩ := h
  refine ⟨A, c, hv, h1.below hs hb, h2, fun ad hA hn hc => ?_⟩
  obtain ⟨b, off, e, hlt, _⟩ := h1.form hn hs
  rw [hA] at e
  injection e with e
  subst e
  have := hF _ hc
  simp only at this
  omega

theorem okNew_yes {h : Int} {fs : List Fate} (e : okNew h fs = true) : ∃ n : Nat, h = n ∧ 1 ≤ n ∧ n ≤ 12 ∧ ∀ f ∈ fs, f.ok = true := by
  simp only [okNew, Bool.and_eq_true, decide_eq_true_eq] at e
  obtain ⟨⟨h1, h2⟩, h3⟩ := e
  obtain ⟨n, rfl⟩ := Int.eq_ofNat_of_zero_le (show 0 ≤ h by omega)
  exact ⟨n, rfl, by omega, by omega, by simpa [okFates] using h3⟩
theorem smallB_yes {fs : List Fate} {l : List Opn} (e : smallB fs l = true) : fs.length ≤ 60 ∧ l.length ≤ 200 := by
  simp only [smallB, Bool.and_eq_true, decide_eq_true_eq] at e
  exact e.1

set_option maxRecDepth 100000 in
set_option maxHeartbeats 2000000 in
theorem cons_walk (h : Int) (fv lv : Value) (fs : List Fate) (l : List Opn) (w : World) (hf : Arg w 3 fv fs.length (flatF fs)) (hl : Arg w 5 lv l.length (flatO l)) (hll : l.length ≤ 9223372036854775807) :
    Calls Try.prog 5 #[.int .i64 h, fv, lv] w (RetB (.bool true) w) := by
  have HF := Lib.hid hf; clear hf
  have HL := Lib.hid hl; clear hl
  go_enter Try.func5, Try.ntmps5
  go_wp2_with fail
  refine (head_any w).mono ?_
  rintro e w1 ⟨rfl, hb1⟩
  have HB1 := Lib.hid hb1; clear hb1
  have hs : Hid (Calls Try.prog 23 #[fv, lv] w1 (Ret (.bool (smallB fs l)) w1)) := small_any fv lv fs l w1 (HF.out.below (by omega) HB1.out) (HL.out.below (by omega) HB1.out) hll
  go_wp2_with fail
  refine hs.out.mono ?_
  rintro e w' ⟨rfl, rfl⟩
  clear hs
  cases hsm : smallB fs l with
  | false =>
    clear hll
    go_wp2_with fail
    go_ret
    exact ⟨rfl, HB1.out⟩
  | true =>
    obtain ⟨hf60, hl200⟩ := smallB_yes hsm
    clear hll
    have hg : Hid (Calls Try.prog 24 #[.int .i64 h, fv] w1 (RetB (.bool (okNew h fs)) w1)) := good_any h fv fs w1 (HF.out.below (by omega) HB1.out) (by omega)
    go_wp2_with fail
    refine hg.out.mono ?_
    rintro e w2 ⟨rfl, hb2⟩
    have HB2 : Hid (Below w.heap.size w w2) := HB1.out.trans (hb2.mono HB1.out.size)
    clear hg hb2 HB1
    cases hon : okNew h fs with
    | false =>
      go_wp2_with fail
      go_ret
      exact ⟨rfl, HB2.out⟩
    | true =>
      obtain ⟨n, rfl, hn1, hn12, hfok⟩ := okNew_yes hon
      have hnew := new_any n fv fs w2 (HF.out.below (by omega) HB2.out) (by omega)
      rw [hon] at hnew
      have HNEW := Lib.hid hnew; clear hnew
      have HFOK := Lib.hid hfok; clear hfok hon hsm
      go_wp2_with fail
      refine HNEW.out.mono ?_
      rintro e w3 ⟨hb3, ⟨hx, _⟩ | ⟨_, g, F0, rfl, hr3, hF3⟩⟩
      · cases hx
      simp only [Int.toNat_natCast] at hr3
      have HB3 : Hid (Below w.heap.size w w3) := HB2.out.trans (hb3.mono HB2.out.size)
      have HF3 : Hid (∀ k, F0 k → w.heap.size ≤ k) := fun k hk => Nat.le_trans HB2.out.size (hF3 k hk)
      have HR3 := Lib.hid hr3; clear hr3
      have hp : Hid (Calls Try.prog 25 #[.pointer (some ⟨g, 0, none⟩), .int .i64 n, fv, lv] w3 (PlayPost F0 g ((St.start (Net.new n fs) n).run fs l) w3)) :=
        play_any HR3.out (Net.new_ok hn1 hn12 HFOK.out) rfl n (by simp [Net.new]) fv lv fs HFOK.out l (HF.out.x (by omega) HB3.out HF3.out) (HL.out.x (by omega) HB3.out HF3.out) (by omega)
      clear hb3 hF3 HNEW
      go_wp2_with fail
      refine hp.out.mono ?_
      rintro e w4 ⟨sv, bb, gb, F, G, rfl, hout⟩
      have hcon := conserves HFOK.out hn1 hn12 l (by omega)
      obtain ⟨hinv, hgl⟩ := pst_inv (N := Net.new n fs) (houses := n) (fates := fs) (l := l) HFOK.out (Net.new_ok hn1 hn12 HFOK.out) rfl (by simp [Net.new]) (by omega) l.length (Nat.le_refl _)
      rw [pst_end] at hinv hgl
      generalize (St.start (Net.new n fs) n).run fs l = s at hout hcon hinv hgl ⊢
      have HB4 : Hid (Below w.heap.size w w4) := HB3.out.trans (hout.upd.below HB3.out.size HF3.out)
      obtain ⟨_, sblk, vs, gblk, hbk⟩ := hout.book
      have hsv := hbk.c0.symm.trans hout.sv
      injection hsv with hsv
      subst hsv
      obtain ⟨sA, sc, rfl, _, _⟩ := hbk.sentR.val
      have hw : s.net.waiting ≤ 4000 := hinv.ok.low
      have hsn : s.sent.length ≤ 9 * l.length := hinv.sent
      have hgt : ∀ x ∈ s.got, x.length ≤ 4000000 := fun x hx => by have := hinv.got x hx; omega
      have hrc : Hid (∀ W : World, Below w4.heap.size w4 W → Calls Try.prog 27 #[.agg #[.slice sA s.sent.length sc, .slice (some ⟨gb, 0, none⟩) s.got.length s.got.length]] W (RetB (.int .i64 (sumLen s.got)) W)) := fun W hW =>
        received_any (⟨_, _, _, _, hbk.keep (Upd.of_below hW) (fun k hk hc => by have := hbk.lt k hk; omega)⟩ : BookRep W G bb gb s.sent s.got) sA _ sc (by omega) hgt
      have hwt : Hid (∀ W : World, Below w4.heap.size w4 W → Calls Try.prog 21 #[.pointer (some ⟨g, 0, none⟩)] W (Ret (.int .i64 s.net.waiting) W)) := fun W hW =>
        waiting_net (hout.net.keep (Upd.of_below hW) (fun k hk hc => by have := hout.net.lt k hk; omega))
      have HCON := Lib.hid hcon; clear hcon
      have HBK := Lib.hid hbk; clear hbk
      have HOUT := Lib.hid hout; clear hout
      have HINV := Lib.hid hinv; clear hinv
      have HGL := Lib.hid hgl; clear hgl
      have HGT := Lib.hid hgt; clear hgt
      clear hp
      have hsl : sumLen s.got ≤ 2000 := by rw [← HCON.out] at hsn; omega
      have heq : (((sumLen s.got : Nat) : Int) + (s.net.waiting : Int) == (s.sent.length : Int)) = true := by
        simp only [beq_iff_eq]
        have := HCON.out
        omega
      go_wp2_with fail
      obtain ⟨W5, HW5⟩ : ∃ W5, Hid (W5 = w4.alloc (.cells #[.slice sA s.sent.length sc, .slice (some ⟨gb, 0, none⟩) s.got.length s.got.length] 46)) := ⟨_, rfl⟩
      have x0 : W5.cell? ⟨w4.heap.size, 0, none⟩ = some (.slice sA s.sent.length sc) := by rw [HW5.out]; go_simp
      have x1 : W5.cell? ⟨w4.heap.size, 1, none⟩ = some (.slice (some ⟨gb, 0, none⟩) s.got.length s.got.length) := by rw [HW5.out]; go_simp
      have HB5 : Hid (Below w4.heap.size w4 W5) := by show Below _ _ _; rw [HW5.out]; exact (Below.refl _ _).alloc (Nat.le_refl _) _
      have HS5 : Hid (W5.heap.size = w4.heap.size + 1) := by show _ = _; rw [HW5.out]; simp
      rw [← HW5.out]
      have hwp : IntKind.i64.wrap (((sumLen s.got : Nat) : Int) + (s.net.waiting : Int)) = ((sumLen s.got : Nat) : Int) + (s.net.waiting : Int) := IntWalk.i64_in _ (by omega)
      go_region_with (first
        | (go_at_call 27; refine (hrc.out _ HB5.out.drew).mono ?_; rintro e w6 ⟨rfl, hb6⟩; have HB6 : Hid (Below (w4.heap.size + 1) W5 w6) := ((Below.refl _ W5).drew).trans (hb6.mono (by show _ ≤ W5.heap.size; rw [HS5.out]; exact Nat.le_refl _)); clear hb6; have x06 : w6.cell? ⟨w4.heap.size, 0, none⟩ = some (.slice sA s.sent.length sc) := (HB6.out.cell (p := ⟨w4.heap.size, 0, none⟩) (by simp)).trans x0)
        | (go_at_call 21; refine (hwt.out _ ?_).mono ?_; (first | exact HB5.out.drew | exact HB5.out.trans (HB6.out.mono (by omega))); rintro e w7 ⟨rfl, rfl⟩))
      all_goals
        go_wp2_with fail
        go_ret
      all_goals
        refine ⟨rfl, ?_⟩
        first
          | exact (HB4.out.trans (HB5.out.mono HB4.out.size)).trans (HB6.out.mono (by have := HB4.out.size; omega))
          | exact ((HB4.out.trans (HB5.out.mono HB4.out.size)).trans (HB6.out.mono (by have := HB4.out.size; omega))).drew
end Go.Proofs.Ytfpiiehdmdmoeaa
