/-
  The walk of NetworkFates.
-/
import Derived.Test.YtfpiiehdmdmoeaaOps
namespace Go.Proofs.Ytfpiiehdmdmoeaa
open Go.RowKit

theorem append_fate {wr : World} {A : Option Addr} {m c : Nat} {xs : List Value} {blk : Option Nat} (hrow : RowAt wr 51 3 (.slice A m c) m xs blk) {B : Option Addr} {k d : Nat} {news : List Value} (hs : Src wr 3 B k news) (hm : m + k ≤ 10000) :
    ∃ A' c' w' blk', (Builtin.append_ #[22, 22] 22 #[.slice A m c, .slice B k d]).run Try.prog wr = .ok (.slice A' (m + k) c') w' ∧
      RowAt w' 51 3 (.slice A' (m + k) c') (m + k) (xs ++ news) blk' ∧ Upd (fun i => blk = some i) wr w' ∧ (blk' = blk ∨ ∃ i, blk' = some i ∧ wr.heap.size ≤ i) := by
  obtain ⟨i1, hi1, hy0, hy1, hy2⟩ := info_parts info51
  obtain ⟨v2, w2, blk2, hrun, hrow2, hu2, hb2⟩ := run_append_row (P := Try.prog) wr 22 22 51 i1 _ 3 24 Try.underlying22 hi1 hy0 hy1 hy2 rfl (.slice A m c) m _ blk hrow B k d news hs (by unfold maxLen; omega) (by omega)
  obtain ⟨A2, c2, rfl, _, _⟩ := hrow2.val
  exact ⟨A2, c2, w2, blk2, hrun, hrow2, hu2, hb2⟩

theorem flatF_append (a b : List Fate) : flatF (a ++ b) = flatF a ++ flatF b := by simp [flatF]

theorem sends_snoc {l : List Opn} {j : Nat} {o : Opn} (ho : l[j]? = some o) : sendsOf (l.take (j + 1)) = sendsOf (l.take j) + (if o.kind = 0 then 1 else 0) := by
  obtain ⟨hj, rfl⟩ := List.getElem?_eq_some_iff.1 ho
  unfold sendsOf
  rw [List.take_succ_eq_append_getElem hj, List.filter_append, List.length_append]
  by_cases h : l[j].kind = 0 <;> simp [h]
theorem sends_le (l : List Opn) : sendsOf l ≤ l.length := List.length_filter_le _ _

set_option maxRecDepth 100000 in
set_option maxHeartbeats 2000000 in
theorem fates_walk (h : Int) (fv uv lv : Value) (fs us : List Fate) (l : List Opn) (w : World) (hf : Arg w 3 fv fs.length (flatF fs)) (hu : Arg w 3 uv us.length (flatF us)) (hl : Arg w 5 lv l.length (flatO l)) (hll : l.length ≤ 9223372036854775807) :
    Calls Try.prog 9 #[.int .i64 h, fv, uv, lv] w (RetB (.bool true) w) := by
  have HF := Lib.hid hf; clear hf
  have HU := Lib.hid hu; clear hu
  have HL := Lib.hid hl; clear hl
  go_enter Try.func9, Try.ntmps9
  go_wp2_with fail
  refine (head_any w).mono ?_
  rintro e w1 ⟨rfl, hb1⟩
  have HB1 := Lib.hid hb1; clear hb1
  have hs : Hid (Calls Try.prog 23 #[fv, lv] w1 (Ret (.bool (smallB fs l)) w1)) := small_any fv lv fs l w1 (HF.out.below (by omega) HB1.out) (HL.out.below (by omega) HB1.out) hll
  go_wp2_with fail
  refine hs.out.mono ?_
  rintro e w' ⟨rfl, rfl⟩
  clear hs
  cases hsm : smallB fs l with
  | false =>
    clear hll
    go_wp2_with fail
    go_ret
    exact ⟨rfl, HB1.out⟩
  | true =>
    obtain ⟨hf60, hl200⟩ := smallB_yes hsm
    clear hll hsm
    have hs : Hid (Calls Try.prog 23 #[uv, .slice none 0 0] w1 (Ret (.bool (smallB us [])) w1)) := small_any uv (.slice none 0 0) us [] w1 (HU.out.below (by omega) HB1.out) ⟨none, 0, rfl, ⟨rfl, by simp [flatO], fun h => by simp at h⟩, fun _ => ⟨rfl, rfl⟩⟩ (by simp)
    go_wp2_with fail
    refine hs.out.mono ?_
    rintro e w' ⟨rfl, rfl⟩
    clear hs
    cases hsm : smallB us [] with
    | false =>
      go_wp2_with fail
      go_ret
      exact ⟨rfl, HB1.out⟩
    | true =>
      obtain ⟨hu60, _⟩ := smallB_yes hsm
      clear hsm
      have hg : Hid (Calls Try.prog 24 #[.int .i64 h, fv] w1 (RetB (.bool (okNew h fs)) w1)) := good_any h fv fs w1 (HF.out.below (by omega) HB1.out) (by omega)
      go_wp2_with fail
      refine hg.out.mono ?_
      rintro e w2 ⟨rfl, hb2⟩
      have HB2 : Hid (Below w.heap.size w w2) := HB1.out.trans (hb2.mono HB1.out.size)
      clear hg hb2 HB1
      cases hon : okNew h fs with
      | false =>
        go_wp2_with fail
        go_ret
        exact ⟨rfl, HB2.out⟩
      | true =>
        have hg : Hid (Calls Try.prog 24 #[.int .i64 h, uv] w2 (RetB (.bool (okNew h us)) w2)) := good_any h uv us w2 (HU.out.below (by omega) HB2.out) (by omega)
        go_wp2_with fail
        refine hg.out.mono ?_
        rintro e w3 ⟨rfl, hb3⟩
        have HB3 : Hid (Below w.heap.size w w3) := HB2.out.trans (hb3.mono HB2.out.size)
        clear hg hb3 HB2
        cases hon2 : okNew h us with
        | false =>
          go_wp2_with fail
          go_ret
          exact ⟨rfl, HB3.out⟩
        | true =>
          obtain ⟨n, rfl, hn1, hn12, hfok⟩ := okNew_yes hon
          have huok : ∀ f ∈ us, f.ok = true := (okNew_yes hon2).choose_spec.2.2.2
          have HFOK := Lib.hid hfok; clear hfok
          have HUOK := Lib.hid huok; clear huok
          have HON := Lib.hid hon; clear hon hon2
          obtain ⟨lA, lc, rfl, hls, _⟩ := HL.out.below (by omega) HB3.out
          have HLS := Lib.hid hls; clear hls
          go_wp2_with fail
          go_loop [10, 11] (fun t i => ∃ j : Nat, j ≤ l.length ∧ i = .int .i64 j ∧ t = .int .i64 (sendsOf (l.take j))) (fun _ i => l.length - (intOf i).toNat)
          case atStart => exact ⟨0, Nat.zero_le _, rfl, rfl⟩
          case round =>
            obtain ⟨j, hj, rfl, rfl⟩ := hrel
            have hsl := sends_le (l.take j)
            have hsl2 : (l.take j).length ≤ j := List.length_take_le _ _
            by_cases hlt : j < l.length
            · obtain ⟨lb, loff, rfl, hlbl, hlc⟩ := HLS.out.form (by omega) (by omega)
              obtain ⟨o, ho⟩ : ∃ o, l[j]? = some o := ⟨l[j], List.getElem?_eq_getElem hlt⟩
              have k0 : w3.cell? ⟨lb, loff + j * 5, none⟩ = some (.int .i64 o.kind) := (hlc (j * 5 + 0) (by omega)).trans (get_flat _ 5 (fun _ => rfl) l j 0 o ho (by omega))
              have hsn := sends_snoc ho
              have HSN := Lib.hid hsn; clear hsn
              have HO := Lib.hid ho; clear ho
              have HLC := Lib.hid hlc; clear hlc
              generalize hkd : o.kind = kd at k0 HSN
              generalize sendsOf (l.take j) = cc at HSN hsl ⊢
              clear hkd
              by_cases e0 : kd = 0
              · subst e0
                go_wp2_with fail
                go_round
                case rel => exact ⟨j + 1, by omega, by go_num, by rw [HSN.out, if_pos rfl]; go_num⟩
                case measure => simp [intOf]; omega
              · have b0 : (kd == 0) = false := by simpa using e0
                have HE0 := Lib.hid e0; clear e0
                go_wp2_with fail
                go_round
                case rel => exact ⟨j + 1, by omega, by go_num, by rw [HSN.out, if_neg HE0.out]; go_num⟩
                case measure => simp [intOf]; omega
            · obtain rfl : l.length = j := by omega
              rw [List.take_of_length_le (Nat.le_refl _)] at hsl ⊢
              clear hsl2
              generalize hSE : sendsOf l = SE at hsl ⊢
              have HSE := Lib.hid hSE; clear hSE
              obtain ⟨fA, fc, rfl, hfs, hfn⟩ := HF.out.below (by omega) HB3.out
              have hfs1 : Src (w3.alloc (.cells #[] 51)) 3 fA fs.length (flatF fs) := hfs.below (by omega) ((Below.refl _ _).alloc (Nat.le_refl _) _)
              obtain ⟨A1, c1, w4, blk1, hrun1, hrow1, hu1, hb1⟩ := append_fate (RowAt.newCap w3 51 3 #[] 0 (Nat.zero_le _) rfl) (d := fc) hfs1 (by omega)
              rw [Nat.zero_add, List.nil_append] at hrow1
              rw [Nat.zero_add] at hrun1
              have HB34 : Hid (Below w3.heap.size w3 w4) := ((Below.refl _ _).alloc (Nat.le_refl _) _).trans (hu1.below (by simp) (fun k hk => by injection hk with hk; omega))
              have HNB1 : Hid (∀ k, blk1 = some k → w3.heap.size ≤ k) := fun k hk => by
                rcases hb1 with e | ⟨i, e, hi⟩
                · rw [e] at hk; injection hk with hk; omega
                · rw [e] at hk; injection hk with hk; simp at hi; omega
              have HRUN1 := Lib.hid hrun1; clear hrun1
              have HROW1 := Lib.hid hrow1; clear hrow1
              clear hfs1 hu1 hb1 hfs hfn
              go_wp2_with (at_builtin; refine wpList_append_run rfl _ _ _ _ rfl _ _ rfl rfl HRUN1.out ?_)
              go_loopg [12] (SE - fs.length) (fun gk v wr => ∃ (m k : Nat) (A : Option Addr) (c : Nat) (blk : Option Nat), gk = SE - m ∧ m = fs.length + k ∧ (k = 0 ∨ m ≤ SE) ∧ v = .slice A m c ∧ RowAt wr 51 3 (.slice A m c) m (flatF (fs ++ List.replicate k one)) blk ∧ (∀ i, blk = some i → w3.heap.size ≤ i) ∧ Below w3.heap.size w3 wr)
              case atStart => exact ⟨fs.length, 0, A1, c1, blk1, rfl, rfl, .inl rfl, rfl, by rw [List.replicate_zero, List.append_nil]; exact HROW1.out, HNB1.out, HB34.out⟩
              case round =>
                obtain ⟨m, k, A, c, blk, hgk, hmk, hkm, rfl, hrow, hnb, hbw⟩ := hrel
                have HGK := Lib.hid hgk; clear hgk
                have HMK := Lib.hid hmk; clear hmk
                have HKM := Lib.hid hkm; clear hkm
                have hm1 : m ≤ 300 := by
                  rcases HKM.out with e | e
                  · have := HMK.out; omega
                  · omega
                by_cases hlt : m < SE
                · have hu0 : Upd (fun _ => False) wr (wr.alloc (.cells #[.bool false, .int .i64 1, .int .i64 0] 51)) := (Upd.refl _ wr).alloc _
                  obtain ⟨A', c', w', blk', hrun, hrow', hu', hb'⟩ := append_fate (hrow.keep hu0 (fun _ _ h => h)) (d := 1) (src_new wr (Fate.cells one) 3 51 (fun u hu => one_flatF [one] u (by simpa [flatF] using hu)) rfl rfl) (by omega)
                  have HR : Hid (RowAt w' 51 3 (.slice A' (m + 1) c') (m + 1) (flatF (fs ++ List.replicate (k + 1) one)) blk' ∧ (∀ i, blk' = some i → w3.heap.size ≤ i) ∧ Below w3.heap.size w3 w') := by
                    have hsz := hbw.size
                    refine ⟨?_, fun i hi => ?_, (hbw.alloc hsz _).trans (hu'.below (Nat.le_trans hsz hu0.size) (fun i hi => hnb i hi))⟩
                    · rw [List.replicate_succ', ← List.append_assoc, flatF_append]
                      exact hrow'
                    · rcases hb' with e | ⟨i2, e, hi2⟩
                      · exact hnb i (e ▸ hi)
                      · rw [e] at hi; injection hi with hi; have := hu0.size; omega
                  have HRUN := Lib.hid hrun; clear hrun
                  clear hrow hnb hbw hrow' hu' hb' hu0
                  go_wp2_with (at_builtin; refine wpList_append_run rfl _ _ _ _ rfl _ _ rfl rfl HRUN.out ?_)
                  go_roundg (SE - (m + 1))
                  case measure => rw [HGK.out]; omega
                  case rel => exact ⟨m + 1, k + 1, A', c', blk', rfl, by rw [HMK.out]; omega, .inr (by omega), rfl, HR.out.1, HR.out.2.1, HR.out.2.2⟩
                · have hk : k = SE - fs.length := by
                    have := HMK.out
                    rcases HKM.out with e | e <;> omega
                  obtain ⟨uA, uc, rfl, hus, _⟩ := HU.out.below (by omega) (HB3.out.trans (hbw.mono HB3.out.size))
                  obtain ⟨A5, c5, w5, blk5, hrun5, hrow5, hu5, hb5⟩ := append_fate hrow (d := uc) hus (by omega)
                  have hLL : longFates fs us SE = fs ++ List.replicate k one ++ us := by unfold longFates; rw [hk]
                  rw [← flatF_append, ← hLL] at hrow5
                  have hlen : m + us.length = (longFates fs us SE).length := by rw [hLL, HMK.out]; simp only [List.length_append, List.length_replicate]
                  rw [hlen] at hrow5 hrun5
                  have harg := hrow5.arg (one_flatF _)
                  have HARG := Lib.hid harg; clear harg
                  have HB5 : Hid (Below w.heap.size w w5) := (HB3.out.trans (hbw.mono HB3.out.size)).trans (hu5.below (Nat.le_trans HB3.out.size hbw.size) (fun i hi => Nat.le_trans HB3.out.size (hnb i hi)))
                  have hlong : (longFates fs us SE).length ≤ 400 := by rw [← hlen]; omega
                  have hlok := long_ok HFOK.out HUOK.out SE
                  have hal := fates_alike (n := n) fs us l
                  rw [HSE.out] at hal
                  have HAL := Lib.hid hal; clear hal
                  generalize longFates fs us SE = LF at HARG hlong hlok HAL hrun5
                  have HLOK := Lib.hid hlok; clear hlok
                  have HRUN := Lib.hid hrun5; clear hrun5
                  clear hrow hnb hbw hus hrow5 hu5 hb5 hLL hlen hk HMK HKM
                  have hnew := new_any n (.slice fA fs.length fc) fs w5 (HF.out.below (by omega) HB5.out) (by omega)
                  rw [HON.out] at hnew
                  have HNEW := Lib.hid hnew; clear hnew
                  go_wp2_with (at_builtin; refine wpList_append_run rfl _ _ _ _ rfl _ _ rfl rfl HRUN.out ?_)
                  refine HNEW.out.mono ?_
                  rintro e w6 ⟨hb6, ⟨hx, _⟩ | ⟨_, g, F0, rfl, hr6, hF6⟩⟩
                  · cases hx
                  simp only [Int.toNat_natCast] at hr6
                  have HB56 : Hid (Below w5.heap.size w5 w6) := hb6
                  have HF6 : Hid (∀ i, F0 i → w5.heap.size ≤ i) := hF6
                  have HR6 := Lib.hid hr6; clear hr6 hb6 hF6 HNEW HRUN
                  have HB6 : Hid (Below w.heap.size w w6) := HB5.out.trans (HB56.out.mono HB5.out.size)
                  have hnew := new_any n (.slice A5 LF.length c5) LF w6 (HARG.out.below (by omega) HB56.out) (by omega)
                  have hon2 : okNew n LF = true := by
                    have h1 : okFates LF = true := by simpa [okFates] using HLOK.out
                    have h2 : decide ((1 : Int) ≤ n) = true := by simp; omega
                    have h3 : decide ((n : Int) ≤ 12) = true := by simp; omega
                    simp [okNew, h1, h2, h3]
                  rw [hon2] at hnew
                  have HNEW := Lib.hid hnew; clear hnew hon2
                  go_wp2_with fail
                  refine HNEW.out.mono ?_
                  rintro e w7 ⟨hb7, ⟨hx, _⟩ | ⟨_, g2, F2, rfl, hr7, hF7⟩⟩
                  · cases hx
                  simp only [Int.toNat_natCast] at hr7
                  have HB67 : Hid (Below w6.heap.size w6 w7) := hb7
                  have HF7 : Hid (∀ i, F2 i → w6.heap.size ≤ i) := hF7
                  have HR7 := Lib.hid hr7; clear hr7 hb7 hF7 HNEW
                  have HB7 : Hid (Below w.heap.size w w7) := HB6.out.trans (HB67.out.mono HB6.out.size)
                  have HB57 : Hid (Below w5.heap.size w5 w7) := HB56.out.trans (HB67.out.mono HB56.out.size)
                  have HR67 : Hid (NetRep w7 F0 g (Net.new n fs)) := HR6.out.keep (Upd.of_below HB67.out) (fun i hi hc => by have := HR6.out.lt i hi; omega)
                  have hp : Hid (Calls Try.prog 25 #[.pointer (some ⟨g, 0, none⟩), .int .i64 n, .slice fA fs.length fc, .slice lA l.length lc] w7 (PlayPost F0 g ((St.start (Net.new n fs) n).run fs l) w7)) :=
                    play_any HR67.out (Net.new_ok hn1 hn12 HFOK.out) rfl n (by simp [Net.new]) _ _ fs HFOK.out l (HF.out.x (by omega) HB7.out (fun i hi => Nat.le_trans HB5.out.size (HF6.out i hi))) (HL.out.x (by omega) HB7.out (fun i hi => Nat.le_trans HB5.out.size (HF6.out i hi))) (by omega)
                  go_wp2_with fail
                  refine hp.out.mono ?_
                  rintro e w8 ⟨sv, bb, gb, F, G, rfl, hout⟩
                  clear hp
                  obtain ⟨hinv, hgl⟩ := pst_inv (N := Net.new n fs) (houses := n) (fates := fs) (l := l) HFOK.out (Net.new_ok hn1 hn12 HFOK.out) rfl (by simp [Net.new]) (by omega) l.length (Nat.le_refl _)
                  rw [pst_end] at hinv hgl
                  obtain ⟨hinv2, hgl2⟩ := pst_inv (N := Net.new n LF) (houses := n) (fates := LF) (l := l) HLOK.out (Net.new_ok hn1 hn12 HLOK.out) rfl (by simp [Net.new]) (by omega) l.length (Nat.le_refl _)
                  rw [pst_end] at hinv2 hgl2
                  have hal := HAL.out
                  clear HAL
                  generalize (St.start (Net.new n fs) n).run fs l = s1 at hout hinv hgl hal ⊢
                  have HB58 : Hid (Below w5.heap.size w5 w8) := HB57.out.trans (hout.upd.below HB57.out.size (fun i hi => HF6.out i hi))
                  have HR78 : Hid (NetRep w8 F2 g2 (Net.new n LF)) := HR7.out.keep hout.upd (fun i hi hc => by have h1 := HF7.out i hi; have h2 := HR6.out.lt i hc; omega)
                  have HN8 : Hid (NetRep w8 F g s1.net ∧ ∀ i, F i → ¬ F2 i) := ⟨hout.net, fun i hi hc => by
                    rcases hout.lowF i hi with h1 | h1
                    · have h2 := HF7.out i hc; have h3 := HR6.out.lt i h1; omega
                    · have := HR7.out.lt i hc; omega⟩
                  obtain ⟨_, sblk, vs, gblk, hbk⟩ := hout.book
                  have hG1 : ∀ i, G i → ¬ F2 i := fun i hi hc => by have h1 := hout.lowG i hi; have h2 := HR7.out.lt i hc; omega
                  have hsv := hbk.c0.symm.trans hout.sv
                  injection hsv with hsv
                  subst hsv
                  obtain ⟨sA, sc, rfl, _⟩ := hbk.sentR.src (one_flatP _)
                  have HBK := Lib.hid hbk; clear hbk
                  have HG1 := Lib.hid hG1; clear hG1
                  clear hout
                  obtain ⟨W9, HW9⟩ : ∃ W9, Hid (W9 = w8.alloc (.cells #[.slice sA s1.sent.length sc, .slice (some ⟨gb, 0, none⟩) s1.got.length s1.got.length] 46)) := ⟨_, rfl⟩
                  have HX1 : Hid (W9.cell? ⟨w8.heap.size, 1, none⟩ = some (.slice (some ⟨gb, 0, none⟩) s1.got.length s1.got.length)) := by show _ = _; rw [HW9.out]; go_simp
                  have HU89 : Hid (Upd (fun _ => False) w8 W9) := by show Upd _ _ _; rw [HW9.out]; exact (Upd.refl _ _).alloc _
                  have HS9 : Hid (W9.heap.size = w8.heap.size + 1) := by show _ = _; rw [HW9.out]; simp
                  have HB59 : Hid (Below w5.heap.size w5 W9) := HB58.out.trans (HU89.out.below HB58.out.size (fun _ h => h.elim))
                  have HB9 : Hid (Below w.heap.size w W9) := HB5.out.trans (HB59.out.mono HB5.out.size)
                  have HR9 : Hid (NetRep W9 F2 g2 (Net.new n LF)) := HR78.out.keep HU89.out (fun _ _ h => h)
                  have HINV := Lib.hid hinv; clear hinv
                  have HGL := Lib.hid hgl; clear hgl
                  have HINV2 := Lib.hid hinv2; clear hinv2
                  have HGL2 := Lib.hid hgl2; clear hgl2
                  have HAL := Lib.hid hal; clear hal
                  have hp : Hid (Calls Try.prog 25 #[.pointer (some ⟨g2, 0, none⟩), .int .i64 n, .slice A5 LF.length c5, .slice lA l.length lc] W9 (PlayPost F2 g2 ((St.start (Net.new n LF) n).run LF l) W9)) :=
                    play_any HR9.out (Net.new_ok hn1 hn12 HLOK.out) rfl n (by simp [Net.new]) _ _ LF HLOK.out l (HARG.out.x (by omega) HB59.out (fun i hi => Nat.le_trans HB56.out.size (HF7.out i hi))) (HL.out.x (by omega) HB9.out (fun i hi => Nat.le_trans HB6.out.size (HF7.out i hi))) (by omega)
                  go_wp2_with fail
                  rw [← HW9.out]
                  refine hp.out.mono ?_
                  rintro e wa ⟨sv, bb2, gb2, F3, G2, rfl, hout⟩
                  clear hp
                  generalize (St.start (Net.new n LF) n).run LF l = s2 at hout HINV2 HGL2 HAL ⊢
                  obtain ⟨_, sblk2, vs2, gblk2, hbk⟩ := hout.book
                  have hsv := hbk.c0.symm.trans hout.sv
                  injection hsv with hsv
                  subst hsv
                  obtain ⟨sA2, sc2, rfl, _⟩ := hbk.sentR.src (one_flatP _)
                  have HU8a : Hid (Upd F2 w8 wa) := (HU89.out.mono (S' := F2) (fun _ _ h => h.elim)).trans hout.upd (fun _ _ h => h)
                  have HB6a : Hid (Below w.heap.size w wa) := HB9.out.trans (hout.upd.below HB9.out.size (fun i hi => Nat.le_trans HB6.out.size (HF7.out i hi)))
                  have HN8a : Hid (NetRep wa F g s1.net) := HN8.out.1.keep HU8a.out (fun i hi hc => HN8.out.2 i hi hc)
                  have HBKa : Hid (BookAt wa G bb gb s1.sent s1.got (.slice sA s1.sent.length sc) sblk vs gblk) := HBK.out.keep HU8a.out HG1.out
                  have HXa : Hid (wa.cell? ⟨w8.heap.size, 1, none⟩ = some (.slice (some ⟨gb, 0, none⟩) s1.got.length s1.got.length)) := (World.cell?_of_block (w := W9) (a := ⟨w8.heap.size, 1, none⟩) (hout.upd.block w8.heap.size (by rw [HS9.out]; exact Nat.lt_succ_self _) (fun hc => Nat.lt_irrefl _ (HR78.out.lt _ hc)))).trans HX1.out
                  have HN2a : Hid (NetRep wa F3 g2 s2.net) := hout.net
                  have HBK2 := Lib.hid hbk; clear hbk
                  have hwl1 : w8.heap.size < wa.heap.size := by have h1 := hout.upd.size; rw [HS9.out] at h1; omega
                  clear hout
                  obtain ⟨Wb, HWb⟩ : ∃ Wb, Hid (Wb = wa.alloc (.cells #[.slice sA2 s2.sent.length sc2, .slice (some ⟨gb2, 0, none⟩) s2.got.length s2.got.length] 46)) := ⟨_, rfl⟩
                  have HBab : Hid (Below wa.heap.size wa Wb) := by show Below _ _ _; rw [HWb.out]; exact (Below.refl _ _).alloc (Nat.le_refl _) _
                  have y1 : Wb.cell? ⟨wa.heap.size, 1, none⟩ = some (.slice (some ⟨gb2, 0, none⟩) s2.got.length s2.got.length) := by rw [HWb.out]; go_simp
                  have x1 : Wb.cell? ⟨w8.heap.size, 1, none⟩ = some (.slice (some ⟨gb, 0, none⟩) s1.got.length s1.got.length) := (HBab.out.cell (p := ⟨w8.heap.size, 1, none⟩) hwl1).trans HXa.out
                  rw [HGL.out] at x1
                  rw [HGL2.out] at y1
                  have hgot : s1.got = s2.got := HAL.out.got
                  have hwt : s1.net.waiting = s2.net.waiting := HAL.out.waiting
                  have HGOT := Lib.hid hgot; clear hgot
                  have HWT := Lib.hid hwt; clear hwt
                  go_wp2_with fail
                  rw [← HWb.out]
                  go_loopw [17] (fun v wr => ∃ i nq : Nat, i ≤ n ∧ v = .int .i64 i ∧ wr = Wb.drewN nq) (fun v _ => n - (intOf v).toNat)
                  case atStart => exact ⟨0, 0, Nat.zero_le _, rfl, rfl⟩
                  case round =>
                    obtain ⟨i, nq, hi, rfl, rfl⟩ := hrel
                    by_cases hlt2 : i < n
                    · obtain ⟨gA, gc, hgr⟩ := book_reads HBKa.out i (by rw [HGL.out]; exact hlt2)
                      obtain ⟨gA2, gc2, hgr2⟩ := book_reads HBK2.out i (by rw [HGL2.out]; exact hlt2)
                      obtain ⟨u1, hsr1⟩ := hgr _ HBab.out
                      obtain ⟨u2, hsr2⟩ := hgr2 _ HBab.out
                      have hl1 : (s1.got.getD i []).length ≤ 4000000 := getD_le (fun x hx => by have := HINV.out.got x hx; omega) i
                      have hl2 : (s2.got.getD i []).length ≤ 4000000 := getD_le (fun x hx => by have := HINV2.out.got x hx; omega) i
                      have hq1 : Hid (∀ nq, Calls Try.prog 18 #[.slice gA (s1.got.getD i []).length gc, .slice gA2 (s2.got.getD i []).length gc2] (Wb.drewN nq) fun e w' => e = .returned (.bool true) ∧ ∃ n, w' = (Wb.drewN nq).drewN n) := fun nq => by
                        have h1 := packets_any gA gA2 (s1.got.getD i []).length (s2.got.getD i []).length gc gc2 (Wb.drewN nq) _ _ rfl rfl hsr1 hsr2 (by omega) (by omega)
                        rw [(sameList_iff _ _).2 (by rw [HGOT.out])] at h1
                        exact h1
                      clear hgr hgr2 hsr1 hsr2
                      generalize (s1.got.getD i []).length = n1 at u1 hq1 hl1
                      generalize (s2.got.getD i []).length = n2 at u2 hq1 hl2
                      have i0 : (0 : Int) ≤ (i : Int) := by omega
                      have i1 : (i : Int) < (n : Int) := by omega
                      generalize hWn : Wb.drewN nq = Wn
                      have a1 : Wn.cell? ⟨w8.heap.size, 1, none⟩ = some (.slice (some ⟨gb, 0, none⟩) n n) := by rw [← hWn]; exact x1
                      have a2 : Wn.cell? ⟨wa.heap.size, 1, none⟩ = some (.slice (some ⟨gb2, 0, none⟩) n n) := by rw [← hWn]; exact y1
                      have a3 : Wn.cell? ⟨gb, i, none⟩ = some (.slice gA n1 gc) := by rw [← hWn]; exact u1
                      have a4 : Wn.cell? ⟨gb2, i, none⟩ = some (.slice gA2 n2 gc2) := by rw [← hWn]; exact u2
                      have hq2 : Hid (∀ mq, Calls Try.prog 18 #[.slice gA n1 gc, .slice gA2 n2 gc2] (Wn.drewN mq) fun e w' => e = .returned (.bool true) ∧ ∃ n, w' = (Wn.drewN mq).drewN n) := fun mq => by
                        rw [← hWn, World.drewN_drewN]
                        exact hq1.out _
                      have HWn := Lib.hid hWn; clear hWn
                      clear u1 u2
                      go_wp2_with fail
                      go_quiet ((go_at_call 18; exact Calls.quiet_of (hq2.out _)))
                      go_wp2_with fail
                      go_roundw
                      case rel => exact ⟨i + 1, _, by omega, by go_num, by rw [← HWn.out, World.drewN_drewN]⟩
                      case measure => simp [intOf]; omega
                    · obtain rfl : n = i := by omega
                      have hub : Upd (fun k => wa.heap.size ≤ k) wa (Wb.drewN nq) := (Upd.of_below HBab.out).drewN nq
                      have w1' : Hid (Calls Try.prog 21 #[.pointer (some ⟨g, 0, none⟩)] (Wb.drewN nq) (Ret (.int .i64 s1.net.waiting) (Wb.drewN nq))) := waiting_net (HN8a.out.keep hub (fun k hk hc => by have := HN8a.out.lt k hk; omega))
                      have w2' : Hid (Calls Try.prog 21 #[.pointer (some ⟨g2, 0, none⟩)] (Wb.drewN nq) (Ret (.int .i64 s1.net.waiting) (Wb.drewN nq))) := by
                        show Calls _ _ _ _ _
                        rw [HWT.out]
                        exact waiting_net (HN2a.out.keep hub (fun k hk hc => by have := HN2a.out.lt k hk; omega))
                      have HBf : Hid (Below w.heap.size w (Wb.drewN nq)) := (HB6a.out.trans (HBab.out.mono HB6a.out.size)).trans ⟨rfl, rfl, rfl, Nat.le_refl _, fun _ _ => rfl⟩
                      generalize Wb.drewN nq = Wf at w1' w2' HBf ⊢
                      go_wp2_with fail
                      refine w1'.out.mono ?_
                      rintro e w' ⟨rfl, rfl⟩
                      go_wp2_with fail
                      refine w2'.out.mono ?_
                      rintro e w' ⟨rfl, rfl⟩
                      go_wp2_with fail
                      go_ret
                      exact ⟨by simp, HBf.out⟩
end Go.Proofs.Ytfpiiehdmdmoeaa
