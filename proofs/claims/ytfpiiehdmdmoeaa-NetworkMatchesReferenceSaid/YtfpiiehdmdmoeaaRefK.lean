/-
  The contract of the reference's Receive.
-/
import Derived.Test.YtfpiiehdmdmoeaaRefJ
namespace Go.Proofs.Ytfpiiehdmdmoeaa
open Go.RowKit

/-- Behind a Receive of the reference: the packets lie in a row of their own. -/
def RRecvPost (F : Nat → Prop) (g : Nat) (R' : Rf) (ps : List Pkt) (err : Int) (w : World) (e : Ending) (w' : World) : Prop :=
  ∃ v blk, e = .returned (.tuple #[v, .int .i64 err]) ∧ RowAt w' 31 3 v ps.length (flatP ps) blk ∧ (∀ k, blk = some k → w.heap.size ≤ k) ∧ RefRep w' (fun k => F k ∨ (w.heap.size ≤ k ∧ k < w'.heap.size)) g R' ∧ Upd F w w'

theorem rrecv_nil (h : Int) (w : World) : Calls Try.prog 17 #[.pointer none, .int .i64 h] w (Ret (.tuple #[.slice none 0 0, .int .i64 1]) w) := by
  go_enter Try.func17, Try.ntmps17
  go_wp2_with (go_at_call 32; refine (rhouse_nil _ _).mono ?_; rintro e w' ⟨rfl, rfl⟩)
  go_ret2
  exact ⟨rfl, rfl⟩

theorem rrecv_bad {w : World} {F : Nat → Prop} {g : Nat} {R : Rf} (hr : RefRep w F g R) (h : Int) (eh : okHouse R.houses h = false) :
    Calls Try.prog 17 #[.pointer (some ⟨g, 0, none⟩), .int .i64 h] w (RRecvPost F g R [] 1 w) := by
  have H := Lib.hid hr; clear hr
  go_enter Try.func17, Try.ntmps17
  go_wp2_with (go_at_call 32; refine (rhouse_any _ H.out).mono ?_; rintro e w' ⟨rfl, rfl⟩)
  go_ret2
  obtain ⟨_, hp, hu⟩ := refpost_same (v := .tuple #[]) H.out (Below.refl _ _)
  exact ⟨_, none, rfl, RowAt.nil _ _ _, (fun _ h => by cases h), hp, hu⟩

theorem keep_snoc {p : Flight → Bool} {cs : List Flight} {i : Nat} {x : Flight} (hx : cs[i]? = some x) : (cs.take (i + 1)).filter p = (cs.take i).filter p ++ (if p x = true then [x] else []) := by
  obtain ⟨hi, rfl⟩ := List.getElem?_eq_some_iff.1 hx
  rw [List.take_succ_eq_append_getElem hi, List.filter_append]
  congr 1
  by_cases h : p cs[i] = true <;> simp [h]
theorem flatL_snoc (l : List Flight) (x : Flight) : flatL (l ++ [x]) = flatL l ++ x.cells := by simp [flatL]

set_option maxRecDepth 100000 in
set_option maxHeartbeats 4000000 in
theorem rrecv_good {w : World} {F : Nat → Prop} {g : Nat} {R : Rf} (hr : RefRep w F g R) (hok : R.Ok) (h : Int) (eh : okHouse R.houses h = true) :
    Calls Try.prog 17 #[.pointer (some ⟨g, 0, none⟩), .int .i64 h] w (RRecvPost F g ⟨R.houses, R.fates, R.time, R.copies.filter (fun c => !(wants h R.time c))⟩ ((sortQ (R.copies.filter (wants h R.time))).map (·.p)) 0 w) := by
  have hord := ordered_any hr hok h
  have hlow := hok.low
  have HRR := Lib.hid hr
  obtain ⟨fv, fblk, cv, cblk, hr⟩ := hr
  obtain ⟨cA, ccap, rfl, hcc, hcx⟩ := hr.copies.val
  obtain ⟨rh, rf, T, cs⟩ := R
  have hgl := hr.lt g hr.inG
  have k2 := hr.c2
  have k3 := hr.c3
  simp only at hcc hlow eh hord k2 k3 ⊢
  generalize hE : (fun c => !(wants h T c)) = p
  have HE := Lib.hid hE; clear hE
  have H := Lib.hid hr; clear hr
  have HORD := Lib.hid hord; clear hord
  generalize hS : sortQ (cs.filter (wants h T)) = so at HORD ⊢
  clear hS
  go_enter Try.func17, Try.ntmps17
  go_wp2_with fail
  refine (rhouse_any _ HRR.out).mono ?_
  rintro e w' ⟨rfl, rfl⟩
  simp only
  rw [eh]
  go_wp2_with fail
  refine HORD.out.mono ?_
  rintro e W1 ⟨oA, oc, oblk, rfl, orow, hb1, onew⟩
  have hz1 : w.heap.size ≤ W1.heap.size := hb1.size
  have HB1 := Lib.hid hb1; clear hb1
  have OR := Lib.hid orow; clear orow
  have ON := Lib.hid onew; clear onew
  go_wp2
  go_loopg [7, 8] cs.length (fun gk v7 v8 wr => ∃ (i : Nat) (A7 : Option Addr) (c7 : Nat) (blk7 : Option Nat), gk = cs.length - i ∧ i ≤ cs.length ∧ v8 = .int .i64 i ∧ v7 = .slice A7 ((cs.take i).filter p).length c7 ∧ Hid (RowAt wr 70 4 (.slice A7 ((cs.take i).filter p).length c7) ((cs.take i).filter p).length (flatL ((cs.take i).filter p)) blk7) ∧ Hid (∀ k, blk7 = some k → W1.heap.size ≤ k) ∧ Below W1.heap.size W1 wr)
  case atStart => exact ⟨0, none, 0, none, rfl, Nat.zero_le _, rfl, rfl, RowAt.nil _ _ _, (fun _ h => by cases h), Below.refl _ _⟩
  case round =>
    obtain ⟨i, A7, c7, blk7, hgk, hi, rfl, rfl, HR7, HN7, hbi⟩ := hrel
    have HGK := Lib.hid hgk; clear hgk
    have hzi : W1.heap.size ≤ wr.heap.size := hbi.size
    have HBI := Lib.hid hbi; clear hbi
    have hbt : Hid (Below w.heap.size w wr) := HB1.out.trans (HBI.out.mono hz1)
    have q2 : wr.cell? ⟨g, 2, none⟩ = some (.int .i64 T) := (hbt.out.cell (p := ⟨g, 2, none⟩) hgl).trans k2
    have q3 : wr.cell? ⟨g, 3, none⟩ = some (.slice cA cs.length ccap) := (hbt.out.cell (p := ⟨g, 3, none⟩) hgl).trans k3
    have hgw : g < wr.heap.size := by omega
    have hfl : ((cs.take i).filter p).length ≤ cs.length := Nat.le_trans (List.length_filter_le _ _) (by rw [List.length_take]; omega)
    by_cases hlt : i < cs.length
    · obtain ⟨cb, coff, ccap', hcbk, hcv, _, _, hcbl, hccell, _⟩ := H.out.copies.form (by show 0 < cs.length; omega)
      injection hcv with hcv1 _ hcv3
      subst hcv1 hcv3
      simp only at hccell
      obtain ⟨x, hx⟩ : ∃ x, cs[i]? = some x := ⟨cs[i], List.getElem?_eq_getElem hlt⟩
      have hcw : ∀ j, j < 4 → wr.cell? ⟨cb, coff + i * 4 + j, none⟩ = x.cells[j]? := fun j hj => by
        rw [hbt.out.cell (p := ⟨cb, coff + i * 4 + j, none⟩) hcbl, Nat.add_assoc, hccell _ (by omega)]
        exact get_flat _ 4 (fun _ => rfl) cs i j x hx hj
      have hsn := keep_snoc (p := p) hx
      obtain ⟨⟨xa, xb, xs⟩, xd⟩ := x
      have x0 : wr.cell? ⟨cb, coff + i * 4, none⟩ = some (.int .i64 xa) := hcw 0 (by omega)
      have x1 : wr.cell? ⟨cb, coff + i * 4 + 1, none⟩ = some (.int .i64 xb) := hcw 1 (by omega)
      have x2 : wr.cell? ⟨cb, coff + i * 4 + 2, none⟩ = some (.string xs) := hcw 2 (by omega)
      have x3 : wr.cell? ⟨cb, coff + i * 4 + 3, none⟩ = some (.int .i64 xd) := hcw 3 (by omega)
      have HSN := Lib.hid hsn; clear hsn
      have HCW := Lib.hid hcw; clear hcw
      have HCC := Lib.hid hccell; clear hccell
      have HX := Lib.hid hx; clear hx
      have HCB := Lib.hid hcbk; clear hcbk
      have i0 : (0 : Int) ≤ (i : Int) := by omega
      have i1 : (i : Int) < (cs.length : Int) := by omega
      generalize hRS : (cs.take i).filter p = rs at *
      have HRS := Lib.hid hRS; clear hRS
      go_wp2
      obtain ⟨Wi, HWi⟩ : ∃ Wi, Hid (Wi = wr.alloc (.cells #[.int .i64 xa, .int .i64 xb, .string xs, .int .i64 xd] 70)) := ⟨_, rfl⟩
      have y0 : Wi.cell? ⟨wr.heap.size, 0, none⟩ = some (.int .i64 xa) := by rw [HWi.out]; go_simp
      have y1 : Wi.cell? ⟨wr.heap.size, 1, none⟩ = some (.int .i64 xb) := by rw [HWi.out]; go_simp
      have y2 : Wi.cell? ⟨wr.heap.size, 2, none⟩ = some (.string xs) := by rw [HWi.out]; go_simp
      have y3 : Wi.cell? ⟨wr.heap.size, 3, none⟩ = some (.int .i64 xd) := by rw [HWi.out]; go_simp
      have HBx : Hid (Below wr.heap.size wr Wi) := by show Below _ _ _; rw [HWi.out]; exact (Below.refl _ _).alloc (Nat.le_refl _) _
      have q2' : Wi.cell? ⟨g, 2, none⟩ = some (.int .i64 T) := (HBx.out.cell (p := ⟨g, 2, none⟩) hgw).trans q2
      have HZi : Hid (Wi.heap.size = wr.heap.size + 1) := by show _ = _; rw [HWi.out]; simp
      rw [← HWi.out]
      clear q2 q3 x0 x1 x2 x3
      have keepIt : Hid (∀ Wq : World, Below Wi.heap.size Wi Wq → ∃ A2 c2 w2 blk2, (Builtin.append_ #[60, 60] 60 #[.slice A7 rs.length c7, .slice (some ⟨Wq.heap.size, 0, none⟩) 1 1]).run Try.prog (Wq.alloc (.cells #[.int .i64 xa, .int .i64 xb, .string xs, .int .i64 xd] 70)) = .ok (.slice A2 (rs.length + 1) c2) w2 ∧
          RowAt w2 70 4 (.slice A2 (rs.length + 1) c2) (rs.length + 1) (flatL rs ++ Flight.cells ⟨⟨xa, xb, xs⟩, xd⟩) blk2 ∧ (∀ k, blk2 = some k → W1.heap.size ≤ k) ∧ Below W1.heap.size W1 w2) := fun Wq hq => by
        have hbq : Below wr.heap.size wr Wq := HBx.out.trans (hq.mono (by rw [HZi.out]; omega))
        have hr0 := HR7.out.keep (Upd.of_below hbq) (fun k hk hc => by have := HR7.out.lt hk; omega)
        have hu0 : Upd (fun _ => False) Wq (Wq.alloc (.cells #[.int .i64 xa, .int .i64 xb, .string xs, .int .i64 xd] 70)) := (Upd.refl _ Wq).alloc _
        obtain ⟨i1, hi1, hy0, hy1, hy2⟩ := info_parts info70
        obtain ⟨v2, w2, blk2, hrun, hrow2, hu2, hb2⟩ := run_append_row (P := Try.prog) (Wq.alloc (.cells #[.int .i64 xa, .int .i64 xb, .string xs, .int .i64 xd] 70)) 60 60 70 i1 _ 4 40 Try.underlying60 hi1 hy0 hy1 hy2 rfl (.slice A7 rs.length c7) rs.length _ blk7 (hr0.keep hu0 (fun _ _ h => h))
          (some ⟨Wq.heap.size, 0, none⟩) 1 1 (Flight.cells ⟨⟨xa, xb, xs⟩, xd⟩) (src_new Wq (Flight.cells ⟨⟨xa, xb, xs⟩, xd⟩) 4 70 (by simp [Flight.cells, Value.oneCell']) rfl rfl) (by unfold maxLen; omega) (by omega)
        obtain ⟨A2, c2, rfl, _, _⟩ := hrow2.val
        have hzq := hbq.size
        have hz0 := hu0.size
        refine ⟨A2, c2, w2, blk2, hrun, hrow2, fun k hk => ?_, ?_⟩
        · rcases hb2 with e | ⟨k', e, hk'⟩
          · exact HN7.out k (e ▸ hk)
          · rw [e] at hk; injection hk with hk; omega
        · exact (HBI.out.trans (hbq.mono hzi)).trans ((hu0.below (B := W1.heap.size) (by omega) (fun _ h => h.elim)).trans (hu2.below (by omega) (fun k hk => HN7.out k hk)))
      cases hb : (xb != h) with
      | true =>
        have HV : Hid (p ⟨⟨xa, xb, xs⟩, xd⟩ = true) := by show _ = _; rw [← HE.out]; simp only [wants, isFor]; simp at hb; simp [hb]
        go_quiet (fail)
        generalize hW2 : World.drewN Wi _ = Wq
        have z0 : Wq.cell? ⟨wr.heap.size, 0, none⟩ = some (.int .i64 xa) := by rw [← hW2]; exact y0
        have z1 : Wq.cell? ⟨wr.heap.size, 1, none⟩ = some (.int .i64 xb) := by rw [← hW2]; exact y1
        have z2 : Wq.cell? ⟨wr.heap.size, 2, none⟩ = some (.string xs) := by rw [← hW2]; exact y2
        have z3 : Wq.cell? ⟨wr.heap.size, 3, none⟩ = some (.int .i64 xd) := by rw [← hW2]; exact y3
        obtain ⟨A2, c2, w2, blk2, hrun, hrow2, hn2, hb2⟩ := keepIt.out Wq (by rw [← hW2]; exact ⟨rfl, rfl, rfl, Nat.le_refl _, fun _ _ => rfl⟩)
        have HW2 := Lib.hid hW2; clear hW2
        have HRUN := Lib.hid hrun; clear hrun
        have HROW2 := Lib.hid hrow2; clear hrow2
        have HN2 := Lib.hid hn2; clear hn2
        have HB2 := Lib.hid hb2; clear hb2
        go_wp2_with (at_builtin; refine wpList_append_run rfl _ _ _ _ rfl _ _ rfl rfl HRUN.out ?_)
        go_roundg (cs.length - (i + 1))
        case measure => rw [HGK.out]; omega
        case rel =>
          have e1 := HSN.out
          rw [if_pos HV.out] at e1
          have e2 : ((cs.take (i + 1)).filter p).length = rs.length + 1 := by rw [e1]; simp
          exact ⟨i + 1, A2, c2, blk2, rfl, by omega, by go_num, by rw [e2], by rw [e2, e1, flatL_snoc]; exact HROW2.out, HN2.out, HB2.out⟩
      | false =>
        cases ht : decide ((T : Int) < xd) with
        | true =>
          have HV : Hid (p ⟨⟨xa, xb, xs⟩, xd⟩ = true) := by show _ = _; rw [← HE.out]; simp only [wants, isDue]; simp at ht; simp [ht]
          go_quiet (fail)
          generalize hW2 : World.drewN Wi _ = Wq
          have z0 : Wq.cell? ⟨wr.heap.size, 0, none⟩ = some (.int .i64 xa) := by rw [← hW2]; exact y0
          have z1 : Wq.cell? ⟨wr.heap.size, 1, none⟩ = some (.int .i64 xb) := by rw [← hW2]; exact y1
          have z2 : Wq.cell? ⟨wr.heap.size, 2, none⟩ = some (.string xs) := by rw [← hW2]; exact y2
          have z3 : Wq.cell? ⟨wr.heap.size, 3, none⟩ = some (.int .i64 xd) := by rw [← hW2]; exact y3
          obtain ⟨A2, c2, w2, blk2, hrun, hrow2, hn2, hb2⟩ := keepIt.out Wq (by rw [← hW2]; exact ⟨rfl, rfl, rfl, Nat.le_refl _, fun _ _ => rfl⟩)
          have HW2 := Lib.hid hW2; clear hW2
          have HRUN := Lib.hid hrun; clear hrun
          have HROW2 := Lib.hid hrow2; clear hrow2
          have HN2 := Lib.hid hn2; clear hn2
          have HB2 := Lib.hid hb2; clear hb2
          go_wp2_with (at_builtin; refine wpList_append_run rfl _ _ _ _ rfl _ _ rfl rfl HRUN.out ?_)
          go_roundg (cs.length - (i + 1))
          case measure => rw [HGK.out]; omega
          case rel =>
            have e1 := HSN.out
            rw [if_pos HV.out] at e1
            have e2 : ((cs.take (i + 1)).filter p).length = rs.length + 1 := by rw [e1]; simp
            exact ⟨i + 1, A2, c2, blk2, rfl, by omega, by go_num, by rw [e2], by rw [e2, e1, flatL_snoc]; exact HROW2.out, HN2.out, HB2.out⟩
        | false =>
          have HV : Hid (¬ p ⟨⟨xa, xb, xs⟩, xd⟩ = true) := by show ¬ _; rw [← HE.out]; simp only [wants, isDue, isFor]; simp at hb ht; simp [hb, ht]
          go_quiet (fail)
          go_wp2
          go_roundg (cs.length - (i + 1))
          case measure => rw [HGK.out]; omega
          case rel =>
            have e1 := HSN.out
            rw [if_neg HV.out, List.append_nil] at e1
            have hbq : ∀ n, Below wr.heap.size wr (Wi.drewN n) := fun n => HBx.out.trans ⟨rfl, rfl, rfl, Nat.le_refl _, fun _ _ => rfl⟩
            refine ⟨i + 1, A7, c7, blk7, rfl, by omega, by go_num, by rw [e1], ?_, HN7.out, HBI.out.trans ((hbq _).mono hzi)⟩
            rw [e1]
            exact HR7.out.keep (Upd.of_below (hbq _)) (fun k hk hc => by have := HR7.out.lt hk; omega)
    · obtain rfl : i = cs.length := by omega
      have z3 : wr.frozen? ⟨g, 3, none⟩ = false := (World.frozen?_of_block (w := w) (a := ⟨g, 3, none⟩) (hbt.out.block g hgl)).trans (H.out.fz 3)
      generalize hRS : (cs.take cs.length).filter p = rs at *
      have hrs : rs = cs.filter p := by rw [← hRS, List.take_of_length_le (Nat.le_refl _)]
      have HRS := Lib.hid hrs; clear hrs hRS
      go_wp2
      go_ret2
      have hu4 : Upd (fun k => k = g) wr (wr.setCell ⟨g, 3, none⟩ (.slice A7 rs.length c7)) := (Upd.refl (fun k => k = g) wr).setCell (.inl rfl) _
      have hut : Upd (fun k => w.heap.size ≤ k) w wr := Upd.of_below hbt.out
      have hd := hut.keep H.out.head (fun hc => by omega)
      have hng : ∀ b, b ≠ g → ∀ o, wr.heap[b]? = some o → (wr.setCell ⟨g, 3, none⟩ (.slice A7 rs.length c7)).heap[b]? = some o := fun b hb o ho => hu4.keep ho hb
      refine ⟨_, oblk, rfl, ?_, ON.out, ?_, ?_⟩
      · rw [List.length_map]
        exact (OR.out.keep (Upd.of_below HBI.out) (fun k hk hc => by have := OR.out.lt hk; omega)).keep hu4 (fun k hk e => by
          have := ON.out k hk
          omega)
      · rw [← HRS.out]
        refine ⟨fv, fblk, .slice A7 rs.length c7, blk7, H.out.setG (R' := ⟨rh, rf, T, rs⟩) ((heap_setCell_same hd _).trans (by simp)) ((H.out.fates.keep hut (fun k hk hc => by have := H.out.fates.lt hk; omega)).keep hu4 (fun k hk e => H.out.nf (by rw [hk, e]))) (HR7.out.keep hu4 (fun k hk e => ?_)) (fun k hk => .inl hk) (fun k hk => .inr ⟨?_, ?_⟩) (fun k hk => ?_)⟩
        · have := HN7.out k hk
          omega
        · have := HN7.out k hk
          omega
        · have := HR7.out.lt hk
          have := hu4.size
          omega
        · have := hu4.size
          rcases hk with hk | hk
          · have := H.out.lt k hk
            omega
          · exact hk.2
      · exact (hut.mono (S' := F) (fun i hi h => by omega)).trans hu4 (fun i _ h => by rw [h]; exact H.out.inG)

theorem rrecv_ref {w : World} {F : Nat → Prop} {g : Nat} {R : Rf} (hr : RefRep w F g R) (hok : R.Ok) (h : Int) :
    Calls Try.prog 17 #[.pointer (some ⟨g, 0, none⟩), .int .i64 h] w (RRecvPost F g (R.recv h).1 (R.recv h).2.1 (R.recv h).2.2 w) := by
  unfold Rf.recv
  cases eh : okHouse R.houses h with
  | false =>
    rw [if_pos rfl]
    exact rrecv_bad hr h eh
  | true =>
    rw [if_neg (by simp)]
    exact rrecv_good hr hok h eh
end Go.Proofs.Ytfpiiehdmdmoeaa
