/-
  The walk of NetworkMatchesReference.
-/
import Derived.Test.YtfpiiehdmdmoeaaRefM
import Derived.Test.YtfpiiehdmdmoeaaLaw
import Derived.Test.YtfpiiehdmdmoeaaCons
import Derived.Deep.RegionHeld3
import Derived.Deep.LoopGhost
namespace Go.Proofs.Ytfpiiehdmdmoeaa
open Go.RowKit

/-- The operation number j, cell by cell, in a world behind w. -/
theorem op_cells {w : World} {lv : Value} {l : List Opn} (hl : Arg w 5 lv l.length (flatO l)) {j : Nat} (hj : j < l.length) :
    ∃ b off c o, lv = .slice (some ⟨b, off, none⟩) l.length c ∧ b < w.heap.size ∧ l[j]? = some o ∧ ∀ wx, Below w.heap.size w wx → ∀ i, i < 5 → wx.cell? ⟨b, off + j * 5 + i, none⟩ = o.cells[i]? := by
  obtain ⟨A, c, rfl, hs, _⟩ := hl
  obtain ⟨b, off, rfl, hlt, hc⟩ := hs.form (by omega) (by omega)
  obtain ⟨o, ho⟩ : ∃ o, l[j]? = some o := ⟨l[j], List.getElem?_eq_getElem hj⟩
  refine ⟨b, off, c, o, rfl, hlt, ho, fun wx hx i hi => ?_⟩
  rw [hx.cell (p := ⟨b, off + j * 5 + i, none⟩) hlt, Nat.add_assoc, hc _ (by omega)]
  exact get_flat _ 5 (fun _ => rfl) l j i o ho hi


set_option maxRecDepth 100000 in
set_option maxHeartbeats 4000000 in
theorem match_walk (h : Int) (fv lv : Value) (fs : List Fate) (l : List Opn) (w : World) (hf : Arg w 3 fv fs.length (flatF fs)) (hl : Arg w 5 lv l.length (flatO l)) (hll : l.length ≤ 9223372036854775807) :
    Calls Try.prog 3 #[.int .i64 h, fv, lv] w (RetB (.bool true) w) := by
  have HF := Lib.hid hf; clear hf
  have HL := Lib.hid hl; clear hl
  obtain ⟨fA, fc, rfl, _⟩ := HF.out
  obtain ⟨lA, lc, rfl, _⟩ := HL.out
  go_enter Try.func3, Try.ntmps3
  go_wp2_with fail
  refine (head_any w).mono ?_
  rintro e w1 ⟨rfl, hb1⟩
  have HB1 := Lib.hid hb1; clear hb1
  by_cases hf500 : fs.length ≤ 500
  case neg =>
    have d2 : decide ((500 : Int) < (fs.length : Int)) = true := by simp; omega
    have d3 : decide (500 < fs.length) = true := by simp; omega
    clear hll
    go_wp2_with fail
    go_ret
    exact ⟨rfl, HB1.out⟩
  by_cases hl500 : l.length ≤ 500
  case neg =>
    have d2 : decide ((500 : Int) < (fs.length : Int)) = false := by simp; omega
    have d3 : decide (500 < fs.length) = false := by simp; omega
    have d4 : decide ((500 : Int) < (l.length : Int)) = true := by simp; omega
    have d5 : decide (500 < l.length) = true := by simp; omega
    clear hll
    go_wp2_with fail
    go_ret
    exact ⟨rfl, HB1.out⟩
  have d2 : decide ((500 : Int) < (fs.length : Int)) = false := by simp; omega
  have d3 : decide (500 < fs.length) = false := by simp; omega
  have d4 : decide ((500 : Int) < (l.length : Int)) = false := by simp; omega
  have d5 : decide (500 < l.length) = false := by simp; omega
  have hs : Hid (Calls Try.prog 11 #[.slice lA l.length lc] w1 (Ret (.bool (shortB l)) w1)) := short_any _ l w1 (HL.out.below (by omega) HB1.out) hll
  clear hll
  go_wp2_with fail
  refine hs.out.mono ?_
  rintro e w' ⟨rfl, rfl⟩
  clear hs d2 d3 d4 d5
  cases hsm : shortB l with
  | false =>
    go_wp2_with fail
    go_ret
    exact ⟨rfl, HB1.out⟩
  | true =>
    clear hsm
    have hnew := new_any h (.slice fA fs.length fc) fs w1 (HF.out.below (by omega) HB1.out) (by omega)
    have HNEW := Lib.hid hnew; clear hnew
    go_wp2_with fail
    refine HNEW.out.mono ?_
    clear HNEW
    cases hon : okNew h fs with
    | false =>
      rintro e w2 ⟨hb2, ⟨_, rfl⟩ | ⟨hx, _⟩⟩
      rotate_left
      · cases hx
      have HB2 : Hid (Below w.heap.size w w2) := HB1.out.trans (hb2.mono HB1.out.size)
      clear hb2 HB1
      have hnew := rnew_any h (.slice fA fs.length fc) fs w2 (HF.out.below (by omega) HB2.out) (by omega)
      rw [hon] at hnew
      have HNEW := Lib.hid hnew; clear hnew hon
      go_wp2_with fail
      refine HNEW.out.mono ?_
      rintro e w3 ⟨hb3, ⟨_, rfl⟩ | ⟨hx, _⟩⟩
      rotate_left
      · cases hx
      have HB3 : Hid (Below w.heap.size w w3) := HB2.out.trans (hb3.mono HB2.out.size)
      clear hb3 HB2 HNEW
      go_wp2_with fail
      go_loopg [10] l.length (fun gk v10 wr => ∃ j : Nat, gk = l.length - j ∧ j ≤ l.length ∧ v10 = .int .i64 j ∧ Hid (Below w.heap.size w wr))
      case atStart => exact ⟨0, rfl, Nat.zero_le _, rfl, HB3.out⟩
      case round =>
        obtain ⟨j, hgk, hj, rfl, HB⟩ := hrel
        have HGK := Lib.hid hgk; clear hgk HB3
        by_cases hlt : j < l.length
        · obtain ⟨b, off, c, o, hlv, hbl, ho, hoc⟩ := op_cells HL.out hlt
          injection hlv with hlv1 _ hlv3
          subst hlv1 hlv3
          obtain ⟨kd, hs, ⟨pa, pb, ps⟩⟩ := o
          have k0 : wr.cell? ⟨b, off + j * 5, none⟩ = some (.int .i64 kd) := hoc wr HB.out 0 (by omega)
          have k1 : wr.cell? ⟨b, off + j * 5 + 1, none⟩ = some (.int .i64 hs) := hoc wr HB.out 1 (by omega)
          have SK : Hid (∀ W, Below w.heap.size w W → W.cell? ⟨b, off + j * 5 + 2, none⟩ = some (.int .i64 pa) ∧ W.cell? ⟨b, off + j * 5 + 3, none⟩ = some (.int .i64 pb) ∧ W.cell? ⟨b, off + j * 5 + 4, none⟩ = some (.string ps)) := fun W hW => ⟨hoc W hW 2 (by omega), hoc W hW 3 (by omega), hoc W hW 4 (by omega)⟩
          have HOC := Lib.hid hoc; clear hoc
          have HO := Lib.hid ho; clear ho
          have j0 : (0 : Int) ≤ (j : Int) := by omega
          have j1 : (j : Int) < (l.length : Int) := by omega
          have hzw : w.heap.size ≤ wr.heap.size := HB.out.size
          by_cases e0 : kd = 0
          · subst e0
            obtain ⟨k2, k3, k4⟩ := SK.out wr HB.out
            go_wp2_with fail
            go_region_held3 (fun W => W.cell? ⟨b, off + j * 5 + 2, none⟩ = some (.int .i64 pa) ∧ W.cell? ⟨b, off + j * 5 + 3, none⟩ = some (.int .i64 pb) ∧ W.cell? ⟨b, off + j * 5 + 4, none⟩ = some (.string ps)) (first | exact SK.out _ HB.out.drew | exact SK.out _ HZ1.out | exact SK.out _ HZ2.out | exact ⟨k2, k3, k4⟩) (first
              | (go_at_call 14; refine (send_nil pa pb ps _).mono ?_; rintro e z1 ⟨rfl, hz1⟩; have HZ1 : Hid (Below w.heap.size w z1) := HB.out.drew.trans (hz1.mono hzw); clear hz1)
              | (go_at_call 15; refine (rsend_nil pa pb ps _).mono ?_; rintro e z2 ⟨rfl, hz2⟩; have HZ2 : Hid (Below w.heap.size w z2) := HZ1.out.trans (hz2.mono HZ1.out.size); clear hz2))
            all_goals
              go_wp2_with fail
              refine (waiting_nil _).mono ?_
              rintro e w' ⟨rfl, rfl⟩
              go_wp2_with fail
              refine (rwaiting_nil _).mono ?_
              rintro e w' ⟨rfl, rfl⟩
              go_wp2_with fail
              go_roundg (l.length - (j + 1))
              case measure => rw [HGK.out]; omega
              case rel => exact ⟨j + 1, rfl, by omega, by go_num, HZ2.out⟩
          · have b0 : (kd == 0) = false := by simpa using e0
            by_cases e1 : kd = 1
            · subst e1
              clear e0 b0
              go_wp2_with fail
              refine (recv_nil hs _).mono ?_
              rintro e w' ⟨rfl, rfl⟩
              go_wp2_with fail
              refine (rrecv_nil hs _).mono ?_
              rintro e w' ⟨rfl, rfl⟩
              go_wp2_with fail
              refine (packets_any none none 0 0 0 0 _ [] [] rfl rfl ⟨rfl, by simp [flatP], by simp⟩ ⟨rfl, by simp [flatP], by simp⟩ (by omega) (by omega)).mono ?_
              rintro e w' ⟨rfl, nq, rfl⟩
              go_wp2_with fail
              refine (waiting_nil _).mono ?_
              rintro e w' ⟨rfl, rfl⟩
              go_wp2_with fail
              refine (rwaiting_nil _).mono ?_
              rintro e w' ⟨rfl, rfl⟩
              go_wp2_with fail
              go_roundg (l.length - (j + 1))
              case measure => rw [HGK.out]; omega
              case rel => exact ⟨j + 1, rfl, by omega, by go_num, HB.out.trans ⟨rfl, rfl, rfl, Nat.le_refl _, fun _ _ => rfl⟩⟩
            · have b1 : (kd == 1) = false := by simpa using e1
              go_wp2_with fail
              refine (step_nil _).mono ?_
              rintro e w' ⟨rfl, rfl⟩
              go_wp2_with fail
              refine (rstep_nil _).mono ?_
              rintro e w' ⟨rfl, rfl⟩
              go_wp2_with fail
              refine (waiting_nil _).mono ?_
              rintro e w' ⟨rfl, rfl⟩
              go_wp2_with fail
              refine (rwaiting_nil _).mono ?_
              rintro e w' ⟨rfl, rfl⟩
              go_wp2_with fail
              go_roundg (l.length - (j + 1))
              case measure => rw [HGK.out]; omega
              case rel => exact ⟨j + 1, rfl, by omega, by go_num, HB.out⟩
        · obtain rfl : l.length = j := by omega
          go_wp2_with fail
          go_ret
          exact ⟨rfl, HB.out⟩
    | true =>
      rintro e w2 ⟨hb2, ⟨hx, _⟩ | ⟨_, g1, F0, rfl, hr2, hF2⟩⟩
      · cases hx
      have HB2 : Hid (Below w.heap.size w w2) := HB1.out.trans (hb2.mono HB1.out.size)
      have HF2 : Hid (∀ k, F0 k → w.heap.size ≤ k) := fun k hk => Nat.le_trans HB1.out.size (hF2 k hk)
      clear hb2 HB1 hF2
      obtain ⟨n, rfl, hn1, hn12, hfok⟩ := okNew_yes hon
      simp only [Int.toNat_natCast] at hr2
      have hnew := rnew_any n (.slice fA fs.length fc) fs w2 (HF.out.below (by omega) HB2.out) (by omega)
      rw [hon] at hnew
      have HNEW := Lib.hid hnew; clear hnew hon
      have HR2 := Lib.hid hr2; clear hr2
      have HFOK := Lib.hid hfok; clear hfok
      go_wp2_with fail
      refine HNEW.out.mono ?_
      rintro e w3 ⟨hb3, ⟨hx, _⟩ | ⟨_, g2, G0, rfl, hr3, hG3⟩⟩
      · cases hx
      simp only [Int.toNat_natCast] at hr3
      have HP0 : Hid (Pair w w3 g1 g2 (Net.new n fs) (Rf.new n fs) F0 G0) :=
        ⟨HR2.out.keep (Upd.of_below hb3) (fun k hk hc => by have := HR2.out.lt' k hk; omega), hr3, Sim.new n fs, Net.new_ok hn1 hn12 HFOK.out, fun k hk hc => by have h1 := HR2.out.lt' k hk; have h2 := hG3 k hc; omega, HF2.out, fun k hk => Nat.le_trans HB2.out.size (hG3 k hk), HB2.out.trans (hb3.mono HB2.out.size)⟩
      clear hb3 HB2 HNEW hr3 hG3 HR2 HF2
      go_wp2_with fail
      go_loopg [10] l.length (fun gk v10 wr => ∃ (j : Nat) (N : Net) (R : Rf) (F1 F2 : Nat → Prop), gk = l.length - j ∧ j ≤ l.length ∧ v10 = .int .i64 j ∧ N.time ≤ j ∧ Hid (Pair w wr g1 g2 N R F1 F2))
      case atStart => exact ⟨0, _, _, _, _, rfl, Nat.zero_le _, rfl, Nat.le_refl _, HP0.out⟩
      case round =>
        obtain ⟨j, N, R, F1, F2, hgk, hj, rfl, htm, HP⟩ := hrel
        have HGK := Lib.hid hgk; clear hgk HP0
        by_cases hlt : j < l.length
        · obtain ⟨b, off, c, o, hlv, hbl, ho, hoc⟩ := op_cells HL.out hlt
          injection hlv with hlv1 _ hlv3
          subst hlv1 hlv3
          obtain ⟨kd, hs, ⟨pa, pb, ps⟩⟩ := o
          have k0 : wr.cell? ⟨b, off + j * 5, none⟩ = some (.int .i64 kd) := hoc wr HP.out.below 0 (by omega)
          have k1 : wr.cell? ⟨b, off + j * 5 + 1, none⟩ = some (.int .i64 hs) := hoc wr HP.out.below 1 (by omega)
          have SK1 : Hid (∀ W, Below w.heap.size w W → W.cell? ⟨b, off + j * 5 + 1, none⟩ = some (.int .i64 hs)) := fun W hW => hoc W hW 1 (by omega)
          have SK : Hid (∀ W, Below w.heap.size w W → W.cell? ⟨b, off + j * 5 + 2, none⟩ = some (.int .i64 pa) ∧ W.cell? ⟨b, off + j * 5 + 3, none⟩ = some (.int .i64 pb) ∧ W.cell? ⟨b, off + j * 5 + 4, none⟩ = some (.string ps)) := fun W hW => ⟨hoc W hW 2 (by omega), hoc W hW 3 (by omega), hoc W hW 4 (by omega)⟩
          have HOC := Lib.hid hoc; clear hoc
          have HO := Lib.hid ho; clear ho
          have j0 : (0 : Int) ≤ (j : Int) := by omega
          have j1 : (j : Int) < (l.length : Int) := by omega
          have hzw : w.heap.size ≤ wr.heap.size := HP.out.below.size
          by_cases e0 : kd = 0
          · subst e0
            obtain ⟨k2, k3, k4⟩ := SK.out wr HP.out.below
            obtain ⟨hse, hss⟩ := HP.out.sim.send ⟨pa, pb, ps⟩
            have hok' := Net.send_ok HP.out.ok ⟨pa, pb, ps⟩
            have htm' := send_time N ⟨pa, pb, ps⟩
            have hcn : ∀ W, NetRep W F1 g1 N → Calls Try.prog 14 #[.pointer (some ⟨g1, 0, none⟩), .agg #[.int .i64 pa, .int .i64 pb, .string ps]] W (NetPost (.int .i64 (N.send ⟨pa, pb, ps⟩).2) F1 g1 (N.send ⟨pa, pb, ps⟩).1 W) := fun W hW => send_net hW HP.out.ok ⟨pa, pb, ps⟩
            have hcr : ∀ W, RefRep W F2 g2 R → Calls Try.prog 15 #[.pointer (some ⟨g2, 0, none⟩), .agg #[.int .i64 pa, .int .i64 pb, .string ps]] W (RefPost (.int .i64 (R.send ⟨pa, pb, ps⟩).2) F2 g2 (R.send ⟨pa, pb, ps⟩).1 W) := fun W hW => rsend_ref hW HP.out.rok ⟨pa, pb, ps⟩
            rw [← hse] at hcr
            clear hse
            generalize (N.send ⟨pa, pb, ps⟩).2 = er at *
            generalize (N.send ⟨pa, pb, ps⟩).1 = N' at *
            generalize (R.send ⟨pa, pb, ps⟩).1 = R' at *
            have htn : N'.time ≤ j := by omega
            have CN := Lib.hid hcn; clear hcn
            have CR := Lib.hid hcr; clear hcr
            have HSS := Lib.hid hss; clear hss
            have HOK := Lib.hid hok'; clear hok'
            clear htm'
            go_wp2_with fail
            go_region_held3 (fun W => W.cell? ⟨b, off + j * 5 + 2, none⟩ = some (.int .i64 pa) ∧ W.cell? ⟨b, off + j * 5 + 3, none⟩ = some (.int .i64 pb) ∧ W.cell? ⟨b, off + j * 5 + 4, none⟩ = some (.string ps)) (first | exact SK.out _ HP.out.below.drew | exact SK.out _ HZ1.out | exact SK.out _ HZ2.out.below | exact ⟨k2, k3, k4⟩) (first
              | (go_at_call 14; refine (CN.out _ HP.out.drew.net).mono ?_; rintro e z1 ⟨rfl, hn1, hu1⟩; have HU1 : Hid (Upd F1 wr z1) := ((Upd.refl _ wr).drew).trans hu1 (fun _ _ h => h); have HZ1 : Hid (Below w.heap.size w z1) := HP.out.below.trans (HU1.out.below hzw HP.out.new1); have HN1 := Lib.hid hn1; clear hu1 hn1)
              | (go_at_call 15; refine (CR.out _ (HP.out.refAt HU1.out)).mono ?_; rintro e z2 ⟨rfl, hr2, hu2⟩; obtain ⟨F2', hp2⟩ := HP.out.both HN1.out HU1.out (fun k hk => hk) hr2 hu2 HSS.out HOK.out; have HZ2 := Lib.hid hp2; clear hr2 hu2 hp2))
            all_goals
              go_wp2_with fail
              refine HZ2.out.wait1.mono ?_
              rintro e w' ⟨rfl, rfl⟩
              go_wp2_with fail
              refine HZ2.out.wait2.mono ?_
              rintro e w' ⟨rfl, rfl⟩
              go_wp2_with fail
              go_roundg (l.length - (j + 1))
              case measure => rw [HGK.out]; omega
              case rel => exact ⟨j + 1, N', R', _, F2', rfl, by omega, by go_num, by omega, HZ2.out⟩
          · have b0 : (kd == 0) = false := by simpa using e0
            by_cases e1 : kd = 1
            · subst e1
              clear e0 b0
              obtain ⟨hse, hss⟩ := HP.out.sim.recv hs
              have hok' := Net.recv_ok HP.out.ok hs
              have htm' := recv_time N hs
              have hrl := recv_len HP.out.ok hs
              have hcn : Calls Try.prog 16 #[.pointer (some ⟨g1, 0, none⟩), .int .i64 hs] wr (RecvPost F1 g1 (N.recv hs).1 (N.recv hs).2.1 (N.recv hs).2.2 wr) := recv_net HP.out.net HP.out.ok hs
              have hcr : ∀ W, RefRep W F2 g2 R → Calls Try.prog 17 #[.pointer (some ⟨g2, 0, none⟩), .int .i64 hs] W (RRecvPost F2 g2 (R.recv hs).1 (R.recv hs).2.1 (R.recv hs).2.2 W) := fun W hW => rrecv_ref hW HP.out.rok hs
              rw [← hse] at hcr
              clear hse
              generalize (N.recv hs).2.1 = pk at *
              generalize (N.recv hs).2.2 = er at *
              generalize (N.recv hs).1 = N' at *
              generalize (R.recv hs).1 = R' at *
              have htn : N'.time ≤ j := by omega
              have CN := Lib.hid hcn; clear hcn
              have CR := Lib.hid hcr; clear hcr
              have HSS := Lib.hid hss; clear hss
              have HOK := Lib.hid hok'; clear hok'
              clear htm'
              go_wp2_with fail
              refine CN.out.mono ?_
              rintro e z1 ⟨v1, b1, rfl, hrow1, hbn1, hn1, hu1⟩
              obtain ⟨A1, c1, rfl, _, _⟩ := hrow1.val
              have HU1 := Lib.hid hu1; clear hu1
              have HN1 := Lib.hid hn1; clear hn1
              have HW1 := Lib.hid hrow1; clear hrow1
              have HBN1 := Lib.hid hbn1; clear hbn1
              have HZ1 : Hid (Below w.heap.size w z1) := HP.out.below.trans (HU1.out.below hzw HP.out.new1)
              have k1' := SK1.out z1 HZ1.out
              go_wp2_with fail
              refine (CR.out z1 (HP.out.refAt HU1.out)).mono ?_
              rintro e z2 ⟨v2, b2, rfl, hrow2, hbn2, hr2, hu2⟩
              obtain ⟨A2, c2, rfl, _, _⟩ := hrow2.val
              obtain ⟨F2', hp2⟩ := HP.out.both HN1.out HU1.out (fun k hk => .inl hk) hr2 hu2 HSS.out HOK.out
              have hrow1 := HW1.out.keep hu2 (fun k hk hc => by
                have h1 := HBN1.out k hk
                have h2 := HP.out.ref.lt k hc
                omega)
              obtain ⟨_, _, ev1, hs1⟩ := hrow1.src (one_flatP pk)
              injection ev1 with ea1 _ ec1
              subst ea1 ec1
              obtain ⟨_, _, ev2, hs2⟩ := hrow2.src (one_flatP pk)
              injection ev2 with ea2 _ ec2
              subst ea2 ec2
              have HCP : Hid (Calls Try.prog 18 #[.slice A1 pk.length c1, .slice A2 pk.length c2] z2 (RetQ (.bool true) z2)) := by
                have := packets_any A1 A2 pk.length pk.length c1 c2 z2 pk pk rfl rfl hs1 hs2 (by omega) (by omega)
                rw [(sameList_iff pk pk).2 rfl] at this
                exact this
              have HZ2 := Lib.hid hp2; clear hp2
              clear hr2 hu2 hrow1 hrow2 hs1 hs2 hbn2
              go_wp2_with fail
              refine HCP.out.mono ?_
              rintro e w' ⟨rfl, nq, rfl⟩
              have HZ3 : Hid (Pair w (z2.drewN nq) g1 g2 N' R' F1 F2') := HZ2.out.on ⟨rfl, rfl, rfl, Nat.le_refl _, fun _ _ => rfl⟩
              go_wp2_with fail
              refine HZ3.out.wait1.mono ?_
              rintro e w' ⟨rfl, rfl⟩
              go_wp2_with fail
              refine HZ3.out.wait2.mono ?_
              rintro e w' ⟨rfl, rfl⟩
              go_wp2_with fail
              go_roundg (l.length - (j + 1))
              case measure => rw [HGK.out]; omega
              case rel => exact ⟨j + 1, N', R', F1, F2', rfl, by omega, by go_num, by omega, HZ3.out⟩
            · have b1 : (kd == 1) = false := by simpa using e1
              have hcn : Calls Try.prog 19 #[.pointer (some ⟨g1, 0, none⟩)] wr (NetPost (.tuple #[]) F1 g1 N.step wr) := step_net HP.out.net (by omega)
              have CN := Lib.hid hcn; clear hcn
              go_wp2_with fail
              refine CN.out.mono ?_
              rintro e z1 ⟨rfl, hn1, hu1⟩
              have CR : Hid (Calls Try.prog 20 #[.pointer (some ⟨g2, 0, none⟩)] z1 (RefPost (.tuple #[]) F2 g2 R.step z1)) := rstep_ref (HP.out.refAt hu1) (by rw [← HP.out.sim.time]; omega)
              have HU1 := Lib.hid hu1; clear hu1
              have HN1 := Lib.hid hn1; clear hn1
              go_wp2_with fail
              refine CR.out.mono ?_
              rintro e z2 ⟨rfl, hr2, hu2⟩
              obtain ⟨F2', hp2⟩ := HP.out.both HN1.out HU1.out (fun k hk => hk) hr2 hu2 HP.out.sim.step (Net.step_ok HP.out.ok (by omega))
              have HZ2 := Lib.hid hp2; clear hp2 hr2 hu2
              go_wp2_with fail
              refine HZ2.out.wait1.mono ?_
              rintro e w' ⟨rfl, rfl⟩
              go_wp2_with fail
              refine HZ2.out.wait2.mono ?_
              rintro e w' ⟨rfl, rfl⟩
              go_wp2_with fail
              go_roundg (l.length - (j + 1))
              case measure => rw [HGK.out]; omega
              case rel => exact ⟨j + 1, N.step, R.step, _, F2', rfl, by omega, by go_num, by show N.time + 1 ≤ j + 1; omega, HZ2.out⟩
        · obtain rfl : l.length = j := by omega
          go_wp2_with fail
          go_ret
          exact ⟨rfl, HP.out.below⟩
end Go.Proofs.Ytfpiiehdmdmoeaa
