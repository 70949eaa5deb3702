/-
  The walk of NetworkDelays.
-/
import Derived.Test.YtfpiiehdmdmoeaaOps
import Derived.Test.YtfpiiehdmdmoeaaPureE
namespace Go.Proofs.Ytfpiiehdmdmoeaa
open Go.RowKit

theorem arg_none (w : World) (size : Nat) : Arg w size (.slice none 0 0) 0 [] := ⟨none, 0, rfl, ⟨by simp, by simp, fun h => by simp at h⟩, fun _ => ⟨rfl, rfl⟩⟩

set_option maxRecDepth 100000 in
set_option maxHeartbeats 2000000 in
theorem delay_walk (h : Int) (lv : Value) (p : Pkt) (raw : Int) (l : List Opn) (w : World) (hl : Arg w 5 lv l.length (flatO l)) (hll : l.length ≤ 9223372036854775807) (hraw : (Lit.int .u8 raw).wf = true) :
    Calls Try.prog 7 #[.int .i64 h, lv, .agg #[.int .i64 p.frm, .int .i64 p.dst, .string p.body], .int .u8 raw] w (RetB (.bool true) w) := by
  have hr8 : 0 ≤ raw ∧ raw ≤ 255 := by simpa [Lit.wf, IntKind.min, IntKind.max, IntKind.signed, IntKind.bits] using hraw
  obtain ⟨hr0, hr255⟩ := hr8
  clear hraw
  obtain ⟨pa, pb, body⟩ := p
  have HL := Lib.hid hl; clear hl
  obtain ⟨W0, HW0⟩ : ∃ W0, Hid (W0 = w.alloc (.cells #[.int .i64 pa, .int .i64 pb, .string body] 31)) := ⟨_, rfl⟩
  have HB0 : Hid (Below w.heap.size w W0) := by show Below _ _ _; rw [HW0.out]; exact (Below.refl _ _).alloc (Nat.le_refl _) _
  have HS0 : Hid (W0.heap.size = w.heap.size + 1) := by show _ = _; rw [HW0.out]; simp
  have HC0 : Hid (W0.heap[w.heap.size]? = some (.cells #[.int .i64 pa, .int .i64 pb, .string body] 31)) := by show _ = _; rw [HW0.out]; exact heap_alloc_new _ _
  go_enter Try.func7, Try.ntmps7
  go_wp2_with fail
  rw [← HW0.out]
  refine (head_any W0).mono ?_
  rintro e w1 ⟨rfl, hb1⟩
  have HB01 : Hid (Below W0.heap.size W0 w1) := hb1
  have HB1 : Hid (Below w.heap.size w w1) := HB0.out.trans (hb1.mono HB0.out.size)
  clear hb1
  have hs : Hid (Calls Try.prog 23 #[.slice none 0 0, lv] w1 (Ret (.bool (smallB [] l)) w1)) := small_any (.slice none 0 0) lv [] l w1 (arg_none _ _) (HL.out.below (by omega) HB1.out) hll
  go_wp2_with fail
  refine hs.out.mono ?_
  rintro e w' ⟨rfl, rfl⟩
  clear hs
  cases hsm : smallB [] l with
  | false =>
    clear hll
    go_wp2_with fail
    go_ret
    exact ⟨rfl, HB1.out⟩
  | true =>
    obtain ⟨_, hl200⟩ := smallB_yes hsm
    clear hll hsm
    have hg : Hid (Calls Try.prog 24 #[.int .i64 h, .slice none 0 0] w1 (RetB (.bool (okNew h [])) w1)) := good_any h (.slice none 0 0) [] w1 (arg_none _ _) (by simp)
    go_wp2_with fail
    refine hg.out.mono ?_
    rintro e w2 ⟨rfl, hb2⟩
    have HB2 : Hid (Below w.heap.size w w2) := HB1.out.trans (hb2.mono HB1.out.size)
    have HB02 : Hid (Below W0.heap.size W0 w2) := HB01.out.trans (hb2.mono HB01.out.size)
    clear hg hb2 HB1 HB01
    cases hon : okNew h [] with
    | false =>
      go_wp2_with fail
      go_ret
      exact ⟨rfl, HB2.out⟩
    | true =>
      obtain ⟨n, rfl, hn1, hn12, _⟩ := okNew_yes hon
      have HON := Lib.hid hon; clear hon
      by_cases hn2 : n < 2
      · have d1 : decide ((n : Int) < 2) = true := by simp; omega
        go_wp2_with fail
        go_ret
        exact ⟨rfl, HB2.out⟩
      · have d1 : decide ((n : Int) < 2) = false := by simp; omega
        have HC2 : Hid (w2.heap[w.heap.size]? = some (.cells #[.int .i64 pa, .int .i64 pb, .string body] 31)) := by
          show _ = _
          rw [HB02.out.block w.heap.size (by rw [HS0.out]; exact Nat.lt_succ_self _)]
          exact HC0.out
        have y0 : w2.cell? ⟨w.heap.size, 0, none⟩ = some (.int .i64 pa) := by rw [cell_of_row _ _ 0 _ _ _ HC2.out]; rfl
        have y1 : w2.cell? ⟨w.heap.size, 1, none⟩ = some (.int .i64 pb) := by rw [cell_of_row _ _ 1 _ _ _ HC2.out]; rfl
        have y2 : w2.cell? ⟨w.heap.size, 2, none⟩ = some (.string body) := by rw [cell_of_row _ _ 2 _ _ _ HC2.out]; rfl
        by_cases hbd : 100 < body.size
        · go_wp2_with fail
          go_ret
          exact ⟨rfl, HB2.out⟩
        · have z0 : w2.frozen? ⟨w.heap.size, 0, none⟩ = false := by simp [World.frozen?, HC2.out]
          have hc3a := heap_setCell_same (i := 0) HC2.out (.int .i64 0)
          have z1 : (w2.setCell ⟨w.heap.size, 0, none⟩ (.int .i64 0)).frozen? ⟨w.heap.size, 1, none⟩ = false := by simp [World.frozen?, hc3a]
          obtain ⟨W3, HW3⟩ : ∃ W3, Hid (W3 = (w2.setCell ⟨w.heap.size, 0, none⟩ (.int .i64 0)).setCell ⟨w.heap.size, 1, none⟩ (.int .i64 1)) := ⟨_, rfl⟩
          have HP3 : Hid (W3.heap[w.heap.size]? = some (.cells #[.int .i64 0, .int .i64 1, .string body] 31)) := by
            show _ = _
            rw [HW3.out]
            exact (heap_setCell_same (i := 1) hc3a (.int .i64 1)).trans (by simp)
          have HB3 : Hid (Below w.heap.size w W3) := by
            show Below _ _ _
            rw [HW3.out]
            exact HB2.out.trans ((((Upd.refl (fun k => k = w.heap.size) w2).setCell (.inl rfl) _).setCell (.inl rfl) _).below HB2.out.size (fun k hk => by rw [hk]; exact Nat.le_refl _))
          clear hc3a
          have hnew := new_any n (.slice none 0 0) [] W3 (arg_none _ _) (by simp)
          rw [HON.out] at hnew
          have HNEW := Lib.hid hnew; clear hnew
          have hds : ¬ (100 : Int) < (body.size : Int) := by omega
          go_wp2_with fail
          rw [← HW3.out]
          refine HNEW.out.mono ?_
          rintro e w4 ⟨hb4, ⟨hx, _⟩ | ⟨_, g, F0, rfl, hr4, hF4⟩⟩
          · cases hx
          simp only [Int.toNat_natCast] at hr4
          clear y0 y1 y2 z0 z1 HNEW
          have hsz3 : w.heap.size < W3.heap.size := lt_of_heap HP3.out
          have HB4 : Hid (Below w.heap.size w w4) := HB3.out.trans (hb4.mono HB3.out.size)
          have HP4 : Hid (w4.heap[w.heap.size]? = some (.cells #[.int .i64 0, .int .i64 1, .string body] 31)) := (hb4.block _ hsz3).trans HP3.out
          have HF4 : Hid (∀ k, F0 k → w.heap.size < k) := fun k hk => by have := hF4 k hk; omega
          have HF4w : Hid (∀ k, F0 k → w.heap.size ≤ k) := fun k hk => Nat.le_of_lt (HF4.out k hk)
          have HR4 := Lib.hid hr4; clear hr4 hb4 hF4
          have hsz4 : w.heap.size < w4.heap.size := lt_of_heap HP4.out
          have hp : Hid (Calls Try.prog 25 #[.pointer (some ⟨g, 0, none⟩), .int .i64 n, .slice none 0 0, lv] w4 (PlayPost F0 g ((St.start (Net.new n []) n).run [] l) w4)) :=
            play_any HR4.out (Net.new_ok hn1 hn12 (by simp)) rfl n (by simp [Net.new]) (.slice none 0 0) lv [] (by simp) l ((arg_none w 3).x (by omega) HB4.out HF4w.out) (HL.out.x (by omega) HB4.out HF4w.out) (by omega)
          obtain ⟨N1, N2, ps, e1, ok1, e2, hps⟩ := delay_first (by omega) hn12 l hl200 body rfl
          obtain ⟨hinv, hgl⟩ := pst_inv (N := Net.new n []) (houses := n) (fates := []) (l := l) (by simp) (Net.new_ok hn1 hn12 (by simp)) rfl (by simp [Net.new]) (by omega) l.length (Nat.le_refl _)
          rw [pst_end] at hinv hgl
          generalize (St.start (Net.new n []) n).run [] l = s at hp e1 hinv hgl
          have HE1 := Lib.hid e1; clear e1
          have HE2 := Lib.hid e2; clear e2
          have HOK1 := Lib.hid ok1; clear ok1
          have HINV := Lib.hid hinv; clear hinv hgl
          go_wp2_with fail
          refine hp.out.mono ?_
          rintro e w5 ⟨sv, bb, gb, F, G, rfl, hout⟩
          clear hp
          obtain ⟨_, sblk, vs, gblk, hbk⟩ := hout.book
          have hsv := hbk.c0.symm.trans hout.sv
          injection hsv with hsv
          subst hsv
          obtain ⟨sA, sc, rfl, _⟩ := hbk.sentR.src (one_flatP _)
          have HB5 : Hid (Below w.heap.size w w5) := HB4.out.trans (hout.upd.below HB4.out.size HF4w.out)
          have HP5 : Hid (w5.heap[w.heap.size]? = some (.cells #[.int .i64 0, .int .i64 1, .string body] 31)) := (hout.upd.block _ hsz4 (fun hc => Nat.lt_irrefl _ (HF4.out _ hc))).trans HP4.out
          have HF5 : Hid (∀ k, F k → w.heap.size < k) := fun k hk => by
            rcases hout.lowF k hk with h1 | h1
            · exact HF4.out k h1
            · omega
          have HR5 : Hid (NetRep w5 F g s.net) := hout.net
          clear hout hbk
          have hsz5 : w.heap.size < w5.heap.size := lt_of_heap HP5.out
          have hsd : Hid (Calls Try.prog 14 #[.pointer (some ⟨g, 0, none⟩), .agg #[.int .i64 0, .int .i64 1, .string body]] w5 (NetPost (.int .i64 0) F g N1 w5)) := send_at HE1.out HINV.out.ok HR5.out
          have p0 : w5.cell? ⟨w.heap.size, 0, none⟩ = some (.int .i64 0) := by rw [cell_of_row _ _ 0 _ _ _ HP5.out]; rfl
          have p1 : w5.cell? ⟨w.heap.size, 1, none⟩ = some (.int .i64 1) := by rw [cell_of_row _ _ 1 _ _ _ HP5.out]; rfl
          have p2 : w5.cell? ⟨w.heap.size, 2, none⟩ = some (.string body) := by rw [cell_of_row _ _ 2 _ _ _ HP5.out]; rfl
          go_wp2_with fail
          refine hsd.out.mono ?_
          rintro e w6 ⟨rfl, hr6, hu6⟩
          clear hsd p0 p1 p2
          have HB6 : Hid (Below w.heap.size w w6) := HB5.out.trans (hu6.below HB5.out.size (fun k hk => Nat.le_of_lt (HF5.out k hk)))
          have HP6 : Hid (w6.heap[w.heap.size]? = some (.cells #[.int .i64 0, .int .i64 1, .string body] 31)) := (hu6.block _ hsz5 (fun hc => Nat.lt_irrefl _ (HF5.out _ hc))).trans HP5.out
          obtain ⟨F6, HR6, HF6⟩ : ∃ F6, Hid (NetRep w6 F6 g N1) ∧ Hid (∀ k, F6 k → w.heap.size < k) := ⟨_, hr6, fun k hk => by
            rcases hk with hk | hk
            · exact HF5.out k hk
            · omega⟩
          clear hr6 hu6
          have hsz6 : w.heap.size < w6.heap.size := lt_of_heap HP6.out
          have hrv : Hid (Calls Try.prog 16 #[.pointer (some ⟨g, 0, none⟩), .int .i64 1] w6 (RecvPost F6 g N2 (ps ++ [⟨0, 1, body⟩]) 0 w6)) := recv_at HE2.out HOK1.out HR6.out
          go_wp2_with fail
          refine hrv.out.mono ?_
          rintro e w7 ⟨v7, b7, rfl, hrow7, hn7, hr7, hu7⟩
          clear hrv
          obtain ⟨A7, c7, rfl, _, _⟩ := hrow7.val
          have HB7 : Hid (Below w.heap.size w w7) := HB6.out.trans (hu7.below HB6.out.size (fun k hk => Nat.le_of_lt (HF6.out k hk)))
          have HP7 : Hid (w7.heap[w.heap.size]? = some (.cells #[.int .i64 0, .int .i64 1, .string body] 31)) := (hu7.block _ hsz6 (fun hc => Nat.lt_irrefl _ (HF6.out _ hc))).trans HP6.out
          have hsz7 : w.heap.size < w7.heap.size := lt_of_heap HP7.out
          have hlen : (ps ++ [(⟨0, 1, body⟩ : Pkt)]).length = ps.length + 1 := by simp
          have hgp : (ps ++ [(⟨0, 1, body⟩ : Pkt)])[ps.length]? = some ⟨0, 1, body⟩ := by simp
          obtain ⟨b, off, cap, _, e7, _, _, _, hc7, _⟩ := hrow7.form (by omega)
          injection e7 with e7 _ _
          subst e7
          have hxw : ∀ i, i < 3 → w7.cell? ⟨b, off + ps.length * 3 + i, none⟩ = (Pkt.cells ⟨0, 1, body⟩)[i]? := fun i hi => by
            rw [Nat.add_assoc, hc7 _ (by omega)]
            exact get_flat _ 3 (fun _ => rfl) _ ps.length i _ hgp hi
          generalize hnn : (ps ++ [(⟨0, 1, body⟩ : Pkt)]).length = nn at hlen ⊢
          clear hc7 hgp hnn hn7 hr7 hu7 hrow7
          have x0 : w7.cell? ⟨b, off + ps.length * 3, none⟩ = some (.int .i64 0) := hxw 0 (by omega)
          have x1 : w7.cell? ⟨b, off + ps.length * 3 + 1, none⟩ = some (.int .i64 1) := hxw 1 (by omega)
          have x2 : w7.cell? ⟨b, off + ps.length * 3 + 2, none⟩ = some (.string body) := hxw 2 (by omega)
          clear hxw
          generalize ps.length = m at x0 x1 x2 hlen hps
          have p0 : w7.cell? ⟨w.heap.size, 0, none⟩ = some (.int .i64 0) := by rw [cell_of_row _ _ 0 _ _ _ HP7.out]; rfl
          have p1 : w7.cell? ⟨w.heap.size, 1, none⟩ = some (.int .i64 1) := by rw [cell_of_row _ _ 1 _ _ _ HP7.out]; rfl
          have p2 : w7.cell? ⟨w.heap.size, 2, none⟩ = some (.string body) := by rw [cell_of_row _ _ 2 _ _ _ HP7.out]; rfl
          have dz : ((nn : Int) == 0) = false := by simp; omega
          have hix : IntKind.i64.wrap ((nn : Int) - 1) = (m : Int) := by rw [IntWalk.i64_in _ (by omega)]; omega
          have hm1 : (m : Int) < (nn : Int) := by omega
          have hm0 : (0 : Int) ≤ (m : Int) := by omega
          have HLEN := Lib.hid hlen; clear hlen
          have hsame : (Pkt.same ⟨0, 1, body⟩ ⟨0, 1, body⟩) = true := (Pkt.same_iff _ _).2 rfl
          have hneq : ∀ w : World, (binOp .neq 31 (.agg #[.int .i64 0, .int .i64 1, .string body]) (.agg #[.int .i64 0, .int .i64 1, .string body])).run Try.prog w = .ok (.bool false) w := fun w => by
            have := run_neq_pkt w ⟨0, 1, body⟩ ⟨0, 1, body⟩
            rw [hsame] at this
            exact this
          have heql : Hid (∀ w : World, (binOp .eql 31 (.agg #[.int .i64 0, .int .i64 1, .string body]) (.agg #[.int .i64 0, .int .i64 1, .string body])).run Try.prog w = .ok (.bool true) w) := fun w => by
            have := run_eql_pkt w ⟨0, 1, body⟩ ⟨0, 1, body⟩
            rw [hsame] at this
            exact this
          clear hsame
          go_wp2_with fail
          go_quiet (fail)
          clear x0 x1 x2 p0 p1 p2 hneq dz hix hm1 hm0
          obtain ⟨d, hd1, hd100, hdm⟩ : ∃ d : Nat, 1 ≤ d ∧ d ≤ 100 ∧ 1 + raw % 100 = (d : Int) := ⟨(1 + raw % 100).toNat, by omega, by omega, by omega⟩
          have HDM := Lib.hid hdm; clear hdm
          obtain ⟨W8, HW8⟩ : ∃ W8, Hid (W8 = (w7.drewN nq).alloc (.cells #[.bool false, .int .i64 1, .int .i64 d] 51)) := ⟨_, rfl⟩
          have HB78 : Hid (Below w7.heap.size w7 W8) := by
            show Below _ _ _
            rw [HW8.out]
            exact (show Below w7.heap.size w7 (w7.drewN nq) from ⟨rfl, rfl, rfl, Nat.le_refl _, fun _ _ => rfl⟩).alloc (Nat.le_refl _) _
          have HB8 : Hid (Below w.heap.size w W8) := HB7.out.trans (HB78.out.mono HB7.out.size)
          have HP8 : Hid (W8.heap[w.heap.size]? = some (.cells #[.int .i64 0, .int .i64 1, .string body] 31)) := (HB78.out.block _ hsz7).trans HP7.out
          have hsz8 : w.heap.size < W8.heap.size := lt_of_heap HP8.out
          have hfok : ∀ f ∈ [(⟨false, 1, d⟩ : Fate)], f.ok = true := by
            intro f hf
            simp at hf
            subst hf
            simp [Fate.ok]
            omega
          have harg : Arg W8 3 (.slice (some ⟨w7.heap.size, 0, none⟩) 1 1) 1 (flatF [⟨false, 1, d⟩]) := by
            rw [HW8.out]
            exact ⟨_, _, rfl, src_newN (w7.drewN nq) (flatF [⟨false, 1, d⟩]) 3 1 51 (one_flatF _) rfl, fun h => by cases h⟩
          have hnew := new_any n (.slice (some ⟨w7.heap.size, 0, none⟩) 1 1) [⟨false, 1, d⟩] W8 harg (by simp)
          have hon : okNew n [(⟨false, 1, d⟩ : Fate)] = true := by
            have h1 : okFates [(⟨false, 1, d⟩ : Fate)] = true := by simpa [okFates] using hfok
            have h2 : decide ((1 : Int) ≤ n) = true := by simp; omega
            have h3 : decide ((n : Int) ≤ 12) = true := by simp; omega
            simp [okNew, h1, h2, h3]
          rw [hon] at hnew
          have HNEW := Lib.hid hnew; clear hnew hon harg
          have HFOK := Lib.hid hfok; clear hfok
          go_wp2_with fail
          simp only [HDM.out]
          rw [← HW8.out]
          refine HNEW.out.mono ?_
          rintro e w9 ⟨hb9, ⟨hx, _⟩ | ⟨_, g2, F2, rfl, hr9, hF9⟩⟩
          · cases hx
          simp only [Int.toNat_natCast] at hr9
          clear HNEW
          have HB9 : Hid (Below w.heap.size w w9) := HB8.out.trans (hb9.mono HB8.out.size)
          have HP9 : Hid (w9.heap[w.heap.size]? = some (.cells #[.int .i64 0, .int .i64 1, .string body] 31)) := (hb9.block _ hsz8).trans HP8.out
          have HF9 : Hid (∀ k, F2 k → w.heap.size < k) := fun k hk => by have := hF9 k hk; omega
          have HR9 := Lib.hid hr9; clear hr9 hb9 hF9
          have hsz9 : w.heap.size < w9.heap.size := lt_of_heap HP9.out
          have hsd : Hid (Calls Try.prog 14 #[.pointer (some ⟨g2, 0, none⟩), .agg #[.int .i64 0, .int .i64 1, .string body]] w9 (NetPost (.int .i64 0) F2 g2 (Mi n body d 0) w9)) := send_at (mi_send (by omega) body d) (Net.new_ok hn1 hn12 HFOK.out) HR9.out
          have p0 : w9.cell? ⟨w.heap.size, 0, none⟩ = some (.int .i64 0) := by rw [cell_of_row _ _ 0 _ _ _ HP9.out]; rfl
          have p1 : w9.cell? ⟨w.heap.size, 1, none⟩ = some (.int .i64 1) := by rw [cell_of_row _ _ 1 _ _ _ HP9.out]; rfl
          have p2 : w9.cell? ⟨w.heap.size, 2, none⟩ = some (.string body) := by rw [cell_of_row _ _ 2 _ _ _ HP9.out]; rfl
          go_wp2_with fail
          refine hsd.out.mono ?_
          rintro e wa ⟨rfl, hra, hua⟩
          clear hsd p0 p1 p2
          have HBa : Hid (Below w.heap.size w wa) := HB9.out.trans (hua.below HB9.out.size (fun k hk => Nat.le_of_lt (HF9.out k hk)))
          have HPa : Hid (wa.heap[w.heap.size]? = some (.cells #[.int .i64 0, .int .i64 1, .string body] 31)) := (hua.block _ hsz9 (fun hc => Nat.lt_irrefl _ (HF9.out _ hc))).trans HP9.out
          have HNa : Hid (∃ F, NetRep wa F g2 (Mi n body d 0) ∧ ∀ k, F k → w.heap.size < k) := ⟨_, hra, fun k hk => by
            rcases hk with hk | hk
            · exact HF9.out k hk
            · omega⟩
          clear hra hua
          go_wp2_with fail
          go_loopg [15] d (fun gk v wr => ∃ i : Nat, gk = d - i ∧ i ≤ d ∧ v = .int .i64 i ∧ (∃ F, NetRep wr F g2 (Mi n body d i) ∧ ∀ k, F k → w.heap.size < k) ∧ wr.heap[w.heap.size]? = some (.cells #[.int .i64 0, .int .i64 1, .string body] 31) ∧ Below w.heap.size w wr)
          case atStart => exact ⟨0, rfl, Nat.zero_le _, rfl, HNa.out, HPa.out, HBa.out⟩
          case round =>
            obtain ⟨i, hgk, hi, rfl, ⟨F, hr, hF⟩, hpc, hbw⟩ := hrel
            have HGK := Lib.hid hgk; clear hgk
            have HR := Lib.hid hr; clear hr
            have HFF := Lib.hid hF; clear hF
            have HPC := Lib.hid hpc; clear hpc
            have HBW := Lib.hid hbw; clear hbw
            have hszr : w.heap.size < wr.heap.size := lt_of_heap HPC.out
            have hok : Hid ((Mi n body d i).Ok) := mi_ok (by omega) hn12 body ⟨by omega, by omega⟩ i (by omega)
            by_cases hlt : i < d
            · have hrv : Hid (Calls Try.prog 16 #[.pointer (some ⟨g2, 0, none⟩), .int .i64 1] wr (RecvPost F g2 (Mi n body d i) [] 0 wr)) := recv_at (mi_early (by omega) body (by omega)) hok.out HR.out
              go_wp2_with fail
              refine hrv.out.mono ?_
              rintro e wx ⟨vx, bx, rfl, hrowx, hnx, hrx, hux⟩
              clear hrv
              obtain ⟨Ax, cx, hvx, _, _⟩ := hrowx.val
              simp only [List.length_nil] at hvx
              subst hvx
              have HBx : Hid (Below w.heap.size w wx) := HBW.out.trans (hux.below HBW.out.size (fun k hk => Nat.le_of_lt (HFF.out k hk)))
              have HPx : Hid (wx.heap[w.heap.size]? = some (.cells #[.int .i64 0, .int .i64 1, .string body] 31)) := (hux.block _ hszr (fun hc => Nat.lt_irrefl _ (HFF.out _ hc))).trans HPC.out
              have hszx : w.heap.size < wx.heap.size := lt_of_heap HPx.out
              have HRx := Lib.hid hrx; clear hrx hux hnx hrowx
              have hwt : Hid (Calls Try.prog 21 #[.pointer (some ⟨g2, 0, none⟩)] wx (Ret (.int .i64 1) wx)) := waiting_net HRx.out
              go_wp2_with fail
              refine hwt.out.mono ?_
              rintro e w' ⟨rfl, rfl⟩
              clear hwt
              have hst : Hid (Calls Try.prog 19 #[.pointer (some ⟨g2, 0, none⟩)] wx (NetPost (.tuple #[]) F g2 (Mi n body d (i + 1)) wx)) := step_net HRx.out (by show i ≤ 1000000; omega)
              go_wp2_with fail
              refine hst.out.mono ?_
              rintro e wy ⟨rfl, hry, huy⟩
              clear hst
              have HBy : Hid (Below w.heap.size w wy) := HBx.out.trans (huy.below HBx.out.size (fun k hk => Nat.le_of_lt (HFF.out k hk)))
              have HPy : Hid (wy.heap[w.heap.size]? = some (.cells #[.int .i64 0, .int .i64 1, .string body] 31)) := (huy.block _ hszx (fun hc => Nat.lt_irrefl _ (HFF.out _ hc))).trans HPx.out
              have HNy : Hid (∃ F, NetRep wy F g2 (Mi n body d (i + 1)) ∧ ∀ k, F k → w.heap.size < k) := ⟨_, hry, fun k hk => by
                rcases hk with hk | hk
                · exact HFF.out k hk
                · omega⟩
              clear hry huy
              go_wp2_with fail
              go_roundg (d - (i + 1))
              case measure => rw [HGK.out]; omega
              case rel => exact ⟨i + 1, rfl, by omega, by go_num, HNy.out, HPy.out, HBy.out⟩
            · obtain rfl : d = i := by omega
              obtain ⟨NL, heL⟩ := mi_late (n := n) (by omega) body d
              have hrv : Hid (Calls Try.prog 16 #[.pointer (some ⟨g2, 0, none⟩), .int .i64 1] wr (RecvPost F g2 NL [⟨0, 1, body⟩] 0 wr)) := recv_at heL hok.out HR.out
              clear heL
              go_wp2_with fail
              refine hrv.out.mono ?_
              rintro e wx ⟨vx, bx, rfl, hrowx, hnx, hrx, hux⟩
              clear hrv
              have HBx : Hid (Below w.heap.size w wx) := HBW.out.trans (hux.below HBW.out.size (fun k hk => Nat.le_of_lt (HFF.out k hk)))
              have HPx : Hid (wx.heap[w.heap.size]? = some (.cells #[.int .i64 0, .int .i64 1, .string body] 31)) := (hux.block _ hszr (fun hc => Nat.lt_irrefl _ (HFF.out _ hc))).trans HPC.out
              obtain ⟨b2, o2, cap2, _, e2, _, _, _, hc2, _⟩ := hrowx.form (by simp)
              simp only [List.length_cons, List.length_nil, Nat.zero_add] at e2
              subst e2
              have x0 : wx.cell? ⟨b2, o2, none⟩ = some (.int .i64 0) := hc2 0 (by simp)
              have x1 : wx.cell? ⟨b2, o2 + 1, none⟩ = some (.int .i64 1) := hc2 1 (by simp)
              have x2 : wx.cell? ⟨b2, o2 + 2, none⟩ = some (.string body) := hc2 2 (by simp)
              have p0 : wx.cell? ⟨w.heap.size, 0, none⟩ = some (.int .i64 0) := by rw [cell_of_row _ _ 0 _ _ _ HPx.out]; rfl
              have p1 : wx.cell? ⟨w.heap.size, 1, none⟩ = some (.int .i64 1) := by rw [cell_of_row _ _ 1 _ _ _ HPx.out]; rfl
              have p2 : wx.cell? ⟨w.heap.size, 2, none⟩ = some (.string body) := by rw [cell_of_row _ _ 2 _ _ _ HPx.out]; rfl
              clear hc2 hrx hux hnx hrowx
              have heq := heql.out
              go_wp2_with fail
              go_quiet (fail)
              go_wp2_with fail
              go_ret
              exact ⟨rfl, HBx.out.trans ⟨rfl, rfl, rfl, Nat.le_refl _, fun _ _ => rfl⟩⟩
end Go.Proofs.Ytfpiiehdmdmoeaa
