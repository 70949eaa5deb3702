/-
  The contract of the reference's ordered.
-/
import Derived.Test.YtfpiiehdmdmoeaaRefG
import Derived.Test.YtfpiiehdmdmoeaaRefI
import Derived.Deep.DeepCutAuto
import Derived.Deep.LoopGhost
import Derived.Deep.CutBlock
namespace Go.Proofs.Ytfpiiehdmdmoeaa
open Go.RowKit

def wants (h : Int) (t : Nat) (c : Flight) : Bool := isFor h c && isDue t c
theorem info4 : (Try.prog.info? 4).map (fun i => (i.zero, i.size, i.bytes)) = some (some (.bool false), 1, 1) := by kernel_rfl
theorem madeB (n : Nat) : madeCells #[.bool false] n = ((List.replicate n false).map Value.bool).toArray := by
  rw [madeCells_list, List.map_replicate]

/-- What ordered keeps: which copies are done, what is out. -/
def OrdAt (w wr : World) (e : Flight → Bool) (cs : List Flight) (ds : List Bool) (out : List Flight) (A : Option Addr) (c : Nat) (blk : Option Nat) : Prop :=
  ds.length = cs.length ∧ sortQ (cs.filter e) = out ++ sortQ (left e cs ds) ∧ RowAt wr 31 3 (.slice A out.length c) out.length (flatP (out.map (·.p))) blk ∧ (∀ k, blk = some k → w.heap.size ≤ k) ∧
    wr.heap[w.heap.size]? = some (.cells (ds.map Value.bool).toArray 4 (0, 0)) ∧ Below w.heap.size w wr

theorem OrdAt.below {w wr wx : World} {e : Flight → Bool} {cs : List Flight} {ds : List Bool} {out : List Flight} {A : Option Addr} {c : Nat} {blk : Option Nat} (h : OrdAt w wr e cs ds out A c blk) (hb : Below wr.heap.size wr wx) : OrdAt w wx e cs ds out A c blk := by
  obtain ⟨h1, h2, h3, h4, h5, h6⟩ := h
  have hu := Upd.of_below hb
  refine ⟨h1, h2, h3.keep hu (fun k hk hc => by have := h3.lt hk; omega), h4, hu.keep h5 (fun hc => by have := lt_of_heap h5; omega), h6.trans (hb.mono h6.size)⟩

set_option maxRecDepth 100000 in
set_option maxHeartbeats 4000000 in
theorem ordered_any {w : World} {F : Nat → Prop} {g : Nat} {R : Rf} (hr : RefRep w F g R) (hok : R.Ok) (h : Int) :
    Calls Try.prog 33 #[.pointer (some ⟨g, 0, none⟩), .int .i64 h] w (RetNew 31 3 (sortQ (R.copies.filter (wants h R.time))).length (flatP ((sortQ (R.copies.filter (wants h R.time))).map (·.p))) w) := by
  obtain ⟨fv, fblk, cv, cblk, hr⟩ := hr
  obtain ⟨cA, ccap, rfl, hcc, hcx⟩ := hr.copies.val
  have hlow := hok.low
  obtain ⟨rh, rf, T, cs⟩ := R
  simp only at hcc hlow ⊢
  have hgl := hr.lt g hr.inG
  have k2 := hr.c2
  have k3 := hr.c3
  simp only at k2 k3
  obtain ⟨i0, hi0, hz0, hz1, hz2⟩ := info_parts info4
  have hmk : ∀ W : World, (Instr.makeSlice 74 (.int .i64 (cs.length : Int)) (.int .i64 (cs.length : Int))).run Try.prog W = .ok (.slice (some ⟨W.heap.size, 0, none⟩) cs.length cs.length) (W.alloc (.cells (madeCells #[.bool false] cs.length) 4)) := fun W => by
    have hmk0 := run_make_rowN (P := Try.prog) 74 4 i0 _ Try.underlying74 hi0 hz0 .i64 .i64 cs.length cs.length (Nat.le_refl _) (by rw [hz2]; omega) (by omega) W
    rw [hz1, Nat.mul_one] at hmk0
    exact hmk0
  clear hi0 hz0 hz1 hz2
  generalize hE : wants h T = e
  have HE := Lib.hid hE; clear hE
  have H := Lib.hid hr; clear hr
  go_enter Try.func33, Try.ntmps33
  go_wp2
  clear hmk
  go_loopg [6] (cs.filter e).length (fun gk v6 wr => ∃ ds out A c blk, gk = (left e cs ds).length ∧ v6 = .slice A out.length c ∧ Hid (OrdAt w wr e cs ds out A c blk))
  case atStart => exact ⟨List.replicate cs.length false, [], none, 0, none, by rw [left_all], rfl, by simp, by rw [left_all]; rfl, RowAt.nil _ _ _, (fun _ h => by cases h), by rw [← madeB]; exact heap_alloc_new w _, (Below.refl _ _).alloc (Nat.le_refl _) _⟩
  case round =>
    obtain ⟨ds, out, A, c, blk, hgk, rfl, HO⟩ := hrel
    obtain ⟨wo, rfl⟩ : ∃ wo, wo = wr := ⟨_, rfl⟩
    have HGK := Lib.hid hgk; clear hgk
    have hbw : Below w.heap.size w wo := HO.out.2.2.2.2.2
    have hz : w.heap.size < wo.heap.size := lt_of_heap HO.out.2.2.2.2.1
    have HBW := Lib.hid hbw; clear hbw
    have hgw : g < wo.heap.size := by omega
    have HO2 : Hid (out.length ≤ cs.length) := by
      have h1 := congrArg List.length HO.out.2.1
      rw [List.length_append, sortQ_length] at h1
      have h2 := List.length_filter_le e cs
      show _ ≤ _
      omega
    go_wp2
    go_loopg [7, 8] cs.length (fun gk2 v7 v8 wr => ∃ (i : Nat) (b : Int), gk2 = cs.length - i ∧ i ≤ cs.length ∧ v8 = .int .i64 i ∧ v7 = .int .i64 b ∧ Hid (Best e cs ds i b) ∧ Below wo.heap.size wo wr)
    case atStart => exact ⟨0, -1, rfl, Nat.zero_le _, rfl, rfl, Best.zero _ _ _, Below.refl _ _⟩
    case round =>
      obtain ⟨i, b, hgk2, hi, rfl, rfl, HBE, hbi⟩ := hrel
      have HGK2 := Lib.hid hgk2; clear hgk2
      have hzi : wo.heap.size ≤ wr.heap.size := hbi.size
      have HBI := Lib.hid hbi; clear hbi
      have hbt : Hid (Below w.heap.size w wr) := HBW.out.trans (HBI.out.mono (by omega))
      have q2 : wr.cell? ⟨g, 2, none⟩ = some (.int .i64 T) := (hbt.out.cell (p := ⟨g, 2, none⟩) hgl).trans k2
      have q3 : wr.cell? ⟨g, 3, none⟩ = some (.slice cA cs.length ccap) := (hbt.out.cell (p := ⟨g, 3, none⟩) hgl).trans k3
      have hgwi : g < wr.heap.size := by omega
      by_cases hlt : i < cs.length
      · obtain ⟨cb, coff, ccap', hcbk, hcv, _, _, hcbl, hccell, _⟩ := H.out.copies.form (by show 0 < cs.length; omega)
        injection hcv with hcv1 _ hcv3
        subst hcv1 hcv3
        simp only at hccell
        obtain ⟨x, hx⟩ : ∃ x, cs[i]? = some x := ⟨cs[i], List.getElem?_eq_getElem hlt⟩
        have hcw : ∀ (i : Nat) (x : Flight) j, cs[i]? = some x → j < 4 → wr.cell? ⟨cb, coff + i * 4 + j, none⟩ = x.cells[j]? := fun i x j hx hj => by
          have hil : i < cs.length := (List.getElem?_eq_some_iff.1 hx).1
          rw [hbt.out.cell (p := ⟨cb, coff + i * 4 + j, none⟩) hcbl, Nat.add_assoc, hccell _ (by omega)]
          exact get_flat _ 4 (fun _ => rfl) cs i j x hx hj
        obtain ⟨⟨xa, xb, xs⟩, xd⟩ := x
        have x0 : wr.cell? ⟨cb, coff + i * 4, none⟩ = some (.int .i64 xa) := hcw i _ 0 hx (by omega)
        have x1 : wr.cell? ⟨cb, coff + i * 4 + 1, none⟩ = some (.int .i64 xb) := hcw i _ 1 hx (by omega)
        have x2 : wr.cell? ⟨cb, coff + i * 4 + 2, none⟩ = some (.string xs) := hcw i _ 2 hx (by omega)
        have x3 : wr.cell? ⟨cb, coff + i * 4 + 3, none⟩ = some (.int .i64 xd) := hcw i _ 3 hx (by omega)
        have hcbw : cb < wr.heap.size := by omega
        obtain ⟨d, hd⟩ : ∃ d, ds[i]? = some d := ⟨ds[i]'(by rw [HO.out.1]; exact hlt), List.getElem?_eq_getElem _⟩
        have kd : wr.cell? ⟨w.heap.size, i, none⟩ = some (.bool d) := by
          rw [HBI.out.cell (p := ⟨w.heap.size, i, none⟩) hz, cell_of_row _ _ _ _ _ _ HO.out.2.2.2.2.1]
          simp [hd]
        have hzw : w.heap.size < wr.heap.size := by omega
        have HCW := Lib.hid hcw; clear hcw
        have HCC := Lib.hid hccell; clear hccell
        have HX := Lib.hid hx; clear hx
        have HD := Lib.hid hd; clear hd
        have HCB := Lib.hid hcbk; clear hcbk
        have i0 : (0 : Int) ≤ (i : Int) := by omega
        have i1 : (i : Int) < (cs.length : Int) := by omega
        go_wp2
        obtain ⟨Wi, HWi⟩ : ∃ Wi, Hid (Wi = wr.alloc (.cells #[.int .i64 xa, .int .i64 xb, .string xs, .int .i64 xd] 70)) := ⟨_, rfl⟩
        have y1 : Wi.cell? ⟨wr.heap.size, 1, none⟩ = some (.int .i64 xb) := by rw [HWi.out]; go_simp
        have y3 : Wi.cell? ⟨wr.heap.size, 3, none⟩ = some (.int .i64 xd) := by rw [HWi.out]; go_simp
        have HBx : Hid (Below wr.heap.size wr Wi) := by show Below _ _ _; rw [HWi.out]; exact (Below.refl _ _).alloc (Nat.le_refl _) _
        have kd' : Wi.cell? ⟨w.heap.size, i, none⟩ = some (.bool d) := (HBx.out.cell (p := ⟨w.heap.size, i, none⟩) hzw).trans kd
        have q2' : Wi.cell? ⟨g, 2, none⟩ = some (.int .i64 T) := (HBx.out.cell (p := ⟨g, 2, none⟩) hgwi).trans q2
        have q3' : Wi.cell? ⟨g, 3, none⟩ = some (.slice (some ⟨cb, coff, none⟩) cs.length ccap) := (HBx.out.cell (p := ⟨g, 3, none⟩) hgwi).trans q3
        have HFIN : Hid (∀ n, Below wo.heap.size wo (Wi.drewN n)) := fun n => (HBI.out.trans (HBx.out.mono hzi)).trans ⟨rfl, rfl, rfl, Nat.le_refl _, fun _ _ => rfl⟩
        rw [← HWi.out]
        clear kd q2 q3 x0 x1 x2 x3
        cases d with
        | true =>
          go_quiet (fail)
          go_wp2
          go_roundg (cs.length - (i + 1))
          case measure => rw [HGK2.out]; omega
          case rel => exact ⟨i + 1, b, rfl, by omega, by go_num, rfl, HBE.out.skip (not_elig_done HD.out), HFIN.out _⟩
        | false =>
          cases hb : (xb == h) with
          | false =>
            have HV : Hid (e ⟨⟨xa, xb, xs⟩, xd⟩ = false) := by show _ = _; rw [← HE.out]; simp [wants, isFor, hb]
            go_quiet (fail)
            go_wp2
            go_roundg (cs.length - (i + 1))
            case measure => rw [HGK2.out]; omega
            case rel => exact ⟨i + 1, b, rfl, by omega, by go_num, rfl, HBE.out.skip (not_elig_no HX.out HV.out), HFIN.out _⟩
          | true =>
            cases ht : decide (xd ≤ (T : Int)) with
            | false =>
              have HV : Hid (e ⟨⟨xa, xb, xs⟩, xd⟩ = false) := by show _ = _; rw [← HE.out]; simp [wants, isDue, ht]
              go_quiet (fail)
              go_wp2
              go_roundg (cs.length - (i + 1))
              case measure => rw [HGK2.out]; omega
              case rel => exact ⟨i + 1, b, rfl, by omega, by go_num, rfl, HBE.out.skip (not_elig_no HX.out HV.out), HFIN.out _⟩
            | true =>
              have HV : Hid (elig e cs ds i) := ⟨HD.out, _, HX.out, by rw [← HE.out]; simp [wants, isDue, isFor, hb, ht]⟩
              have HBE0 := HBE.out
              rcases HBE0 with ⟨rfl, _⟩ | ⟨k, y, rfl, hki, _, hy, _, _⟩
              · go_quiet (fail)
                go_wp2
                go_roundg (cs.length - (i + 1))
                case measure => rw [HGK2.out]; omega
                case rel => exact ⟨i + 1, i, rfl, by omega, by go_num, rfl, HBE.out.first HV.out HX.out, HFIN.out _⟩
              · have hkl : k < cs.length := by omega
                obtain ⟨⟨ya, yb, ys⟩, yd⟩ := y
                have y4 : Wi.cell? ⟨cb, coff + k * 4 + 3, none⟩ = some (.int .i64 yd) := (HBx.out.cell (p := ⟨cb, coff + k * 4 + 3, none⟩) hcbw).trans (HCW.out k _ 3 hy (by omega))
                have HY := Lib.hid hy; clear hy
                have kn : decide ((k : Int) < 0) = false := by simp
                have k0 : (0 : Int) ≤ (k : Int) := by omega
                have k1 : (k : Int) < (cs.length : Int) := by omega
                cases hl : decide (xd < yd) with
                | true =>
                  go_quiet (fail)
                  go_wp2
                  go_roundg (cs.length - (i + 1))
                  case measure => rw [HGK2.out]; omega
                  case rel => exact ⟨i + 1, i, rfl, by omega, by go_num, rfl, HBE.out.less HY.out HV.out HX.out (of_decide_eq_true hl), HFIN.out _⟩
                | false =>
                  go_quiet (fail)
                  go_wp2
                  go_roundg (cs.length - (i + 1))
                  case measure => rw [HGK2.out]; omega
                  case rel => exact ⟨i + 1, k, rfl, by omega, by go_num, rfl, HBE.out.more HY.out HX.out (of_decide_eq_false hl), HFIN.out _⟩
      · obtain rfl : i = cs.length := by omega
        have HBE0 := HBE.out
        rcases HBE0 with ⟨rfl, _⟩ | ⟨k, y, rfl, hki, _, hy, _, _⟩
        · have hle := HBE.out.none
          go_wp2
          go_ret
          obtain ⟨o1, o2, o3, o4, o5, o6⟩ := HO.out.below HBI.out
          rw [hle] at o2
          have e2 : sortQ (cs.filter e) = out := by rw [o2]; exact List.append_nil _
          rw [e2]
          exact ⟨A, c, blk, rfl, o3, o6, o4⟩
        · obtain ⟨hkl, hdk, hpick⟩ := HBE.out.pick hy
          obtain ⟨o1, o2, o3, o4, o5, o6⟩ := HO.out.below HBI.out
          obtain ⟨cb, coff, ccap', hcbk, hcv, _, _, hcbl, hccell, _⟩ := H.out.copies.form (by show 0 < cs.length; omega)
          injection hcv with hcv1 _ hcv3
          subst hcv1 hcv3
          simp only at hccell
          obtain ⟨⟨ya, yb, ys⟩, yd⟩ := y
          have hcw : ∀ j, j < 4 → wr.cell? ⟨cb, coff + k * 4 + j, none⟩ = (Flight.cells ⟨⟨ya, yb, ys⟩, yd⟩)[j]? := fun j hj => by
            rw [hbt.out.cell (p := ⟨cb, coff + k * 4 + j, none⟩) hcbl, Nat.add_assoc, hccell _ (by omega)]
            exact get_flat _ 4 (fun _ => rfl) cs k j _ hy hj
          have x0 : wr.cell? ⟨cb, coff + k * 4, none⟩ = some (.int .i64 ya) := hcw 0 (by omega)
          have x1 : wr.cell? ⟨cb, coff + k * 4 + 1, none⟩ = some (.int .i64 yb) := hcw 1 (by omega)
          have x2 : wr.cell? ⟨cb, coff + k * 4 + 2, none⟩ = some (.string ys) := hcw 2 (by omega)
          have hcbw : cb < wr.heap.size := by omega
          have kd : wr.cell? ⟨w.heap.size, k, none⟩ = some (.bool false) := by
            rw [cell_of_row _ _ _ _ _ _ o5]
            simp [hdk]
          have zd : wr.frozen? ⟨w.heap.size, k, none⟩ = false := by simp [World.frozen?, o5]
          have hzw : w.heap.size < wr.heap.size := by omega
          have HCW := Lib.hid hcw; clear hcw
          have HCC := Lib.hid hccell; clear hccell
          have HY := Lib.hid hy; clear hy
          have HDK := Lib.hid hdk; clear hdk
          have HPK := Lib.hid hpick; clear hpick
          have HCB := Lib.hid hcbk; clear hcbk
          have O1 := Lib.hid o1; clear o1
          have O2 := Lib.hid o2; clear o2
          have O3 := Lib.hid o3; clear o3
          have O4 := Lib.hid o4; clear o4
          have O5 := Lib.hid o5; clear o5
          have O6 := Lib.hid o6; clear o6
          have kn : decide ((k : Int) < 0) = false := by simp
          have k0 : (0 : Int) ≤ (k : Int) := by omega
          have k1 : (k : Int) < (cs.length : Int) := by omega
          go_upto_region 13 with (fail)
          obtain ⟨Ws, HWs⟩ : ∃ Ws, Hid (Ws = wr.setCell ⟨w.heap.size, k, none⟩ (.bool true)) := ⟨_, rfl⟩
          have HUs : Hid (Upd (fun b => b = w.heap.size) wr Ws) := by show Upd _ _ _; rw [HWs.out]; exact (Upd.refl (fun b => b = w.heap.size) wr).setCell (.inl rfl) _
          have hsx : ∀ b j, b < w.heap.size → Ws.cell? ⟨b, j, none⟩ = wr.cell? ⟨b, j, none⟩ := fun b j hb => World.cell?_of_block (w := wr) (a := ⟨b, j, none⟩) (HUs.out.block _ (by show b < wr.heap.size; omega) (fun hc => by have hx : b = w.heap.size := hc; omega))
          have y0 : Ws.cell? ⟨cb, coff + k * 4, none⟩ = some (.int .i64 ya) := (hsx _ _ hcbl).trans x0
          have y1 : Ws.cell? ⟨cb, coff + k * 4 + 1, none⟩ = some (.int .i64 yb) := (hsx _ _ hcbl).trans x1
          have y2 : Ws.cell? ⟨cb, coff + k * 4 + 2, none⟩ = some (.string ys) := (hsx _ _ hcbl).trans x2
          have y3 : Ws.cell? ⟨g, 3, none⟩ = some (.slice (some ⟨cb, coff, none⟩) cs.length ccap) := (hsx _ _ hgl).trans q3
          rw [← HWs.out]
          clear hsx x0 x1 x2 kd zd q2 q3
          have hrow0 : RowAt Ws 31 3 (.slice A out.length c) out.length (flatP (out.map (·.p))) blk := O3.out.keep HUs.out (fun b hb hc => O3.out.ne_type O5.out (by decide) (by rw [hb, hc]))
          have hu0 : Upd (fun _ => False) Ws (Ws.alloc (.cells #[.int .i64 ya, .int .i64 yb, .string ys] 31)) := (Upd.refl _ Ws).alloc _
          obtain ⟨i1, hi1, hy0, hy1, hy2⟩ := info_parts info31
          have hol : out.length ≤ cs.length := HO2.out
          obtain ⟨v2, w2, blk2, hrun, hrow2, hu2, hb2⟩ := run_append_row (P := Try.prog) (Ws.alloc (.cells #[.int .i64 ya, .int .i64 yb, .string ys] 31)) 36 36 31 i1 _ 3 32 Try.underlying36 hi1 hy0 hy1 hy2 rfl (.slice A out.length c) out.length _ blk (hrow0.keep hu0 (fun _ _ h => h))
            (some ⟨Ws.heap.size, 0, none⟩) 1 1 (Pkt.cells ⟨ya, yb, ys⟩) (src_new Ws (Pkt.cells ⟨ya, yb, ys⟩) 3 31 (by simp [Pkt.cells, Value.oneCell']) rfl rfl) (by unfold maxLen; omega) (by omega)
          obtain ⟨A2, c2, rfl, _, _⟩ := hrow2.val
          have HRUN := Lib.hid hrun; clear hrun
          have HROW0 := Lib.hid hrow0; clear hrow0
          have HROW2 := Lib.hid hrow2; clear hrow2
          have HU0 := Lib.hid hu0; clear hu0
          have HU2 := Lib.hid hu2; clear hu2
          have HB2 := Lib.hid hb2; clear hb2
          clear hi1 hy0 hy1 hy2
          go_wp2_with (at_builtin; refine wpList_append_run rfl _ _ _ _ rfl _ _ rfl rfl HRUN.out ?_)
          go_roundg ((left e cs (ds.set k true)).length)
          case measure =>
            have h1 := congrArg List.length HPK.out
            rw [List.length_cons, sortQ_length, sortQ_length] at h1
            rw [HGK.out]
            omega
          case rel =>
            have hsz := HUs.out.size
            have hsz0 := HU0.out.size
            have hwz := O6.out.size
            have hhead : Ws.heap[w.heap.size]? = some (.cells ((ds.set k true).map Value.bool).toArray 4 (0, 0)) := by
              rw [HWs.out, heap_setCell_same O5.out]
              simp
            have hnb : blk ≠ some w.heap.size := HROW0.out.ne_type hhead (by decide)
            refine ⟨ds.set k true, out ++ [⟨⟨ya, yb, ys⟩, yd⟩], A2, c2, blk2, rfl, by simp, by simp [O1.out], ?_, ?_, fun b hb => ?_, ?_, ?_⟩
            · rw [O2.out, HPK.out]
              simp
            · have h1 := HROW2.out
              have e1 : flatP ((out ++ [(⟨⟨ya, yb, ys⟩, yd⟩ : Flight)]).map (·.p)) = flatP (out.map (·.p)) ++ Pkt.cells ⟨ya, yb, ys⟩ := by simp [flatP]
              rw [e1]
              simpa using h1
            · rcases HB2.out with e1 | ⟨b', e1, hb'⟩
              · exact O4.out b (e1 ▸ hb)
              · rw [e1] at hb
                injection hb with hb
                omega
            · exact HU2.out.keep (HU0.out.keep hhead (fun h => h)) hnb
            · refine (O6.out.trans (HUs.out.below hwz (fun b hb => by omega))).trans ((HU0.out.below (B := w.heap.size) (by omega) (fun _ h => h.elim)).trans (HU2.out.below (by omega) (fun b hb => O4.out b hb)))
end Go.Proofs.Ytfpiiehdmdmoeaa
