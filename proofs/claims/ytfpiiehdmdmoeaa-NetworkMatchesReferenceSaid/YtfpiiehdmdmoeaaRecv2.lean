/-
  The contract of (*Network).Receive where some packets are still on their way.
-/
import Derived.Test.YtfpiiehdmdmoeaaRecv
namespace Go.Proofs.Ytfpiiehdmdmoeaa
open Go.RowKit

theorem recv_store2 {W : World} {F : Nat → Prop} {g : Nat} {N : Net} {fv : Value} {fblk : Option Nat} {qb : Nat} {vs : List Value} {qblk : Nat → Option Nat} (hr : NetAt W F g N fv fblk qb vs qblk) (h : Nat) (hh : h < N.queues.length)
    (V1 : Value) (q' : List Flight) (blk' : Option Nat) {n' : Nat} (hn' : n' = q'.length) (hrow : RowAt W 66 4 V1 n' (flatL q') blk') (hblk : blk' = none ∨ blk' = qblk h) (wait' : Nat) :
    NetRep ((W.setCell ⟨qb, h, none⟩ V1).setCell ⟨g, 2, none⟩ (.int .i64 wait')) F g ⟨N.fates, N.time, wait', N.queues.set h q'⟩ ∧
      Upd F W ((W.setCell ⟨qb, h, none⟩ V1).setCell ⟨g, 2, none⟩ (.int .i64 wait')) ∧
      Upd (fun k => k = g ∨ k = qb) W ((W.setCell ⟨qb, h, none⟩ V1).setCell ⟨g, 2, none⟩ (.int .i64 wait')) := by
  subst hn'
  have hu : Upd (fun k => k = g ∨ k = qb) W ((W.setCell ⟨qb, h, none⟩ V1).setCell ⟨g, 2, none⟩ (.int .i64 wait')) :=
    ((Upd.refl (fun k => k = g ∨ k = qb) W).setCell (.inl (.inr rfl)) _).setCell (.inl (.inl rfl)) _
  have hg1 : (W.setCell ⟨qb, h, none⟩ V1).heap[g]? = _ := (Below.heap_setCell _ _ _ _ hr.gq).trans hr.head
  have key := hr.setQueueG (w' := (W.setCell ⟨qb, h, none⟩ V1).setCell ⟨g, 2, none⟩ (.int .i64 wait')) h hh q' V1 blk' wait' (F' := F) (fun _ h => h)
    (fun k hk => by
      rcases hblk with e | e
      · rw [e] at hk; cases hk
      · exact hr.inL h k hh (e ▸ hk)) (fun k hk => Nat.lt_of_lt_of_le (hr.lt k hk) hu.size)
    (hrow.keep hu (fun k hk => by
      rintro (rfl | rfl)
      · exact hrow.ne_type hr.head (by decide) hk
      · exact hrow.ne_type hr.row (by decide) hk)) (by rcases hblk with e | e; exact .inl e; exact .inr (.inl e))
    ((heap_setCell_same hg1 _).trans (by simp)) ((Below.heap_setCell _ _ _ _ (fun e => hr.gq e.symm)).trans ((heap_setCell_same hr.row V1).trans (by simp))) (hu.mono (fun i _ hi => hi.elim .inl (fun h => .inr (.inl h))))
  exact ⟨key.1, key.2, hu⟩

set_option maxRecDepth 100000 in
set_option maxHeartbeats 1000000 in
theorem recv_part {w : World} {F : Nat → Prop} {g : Nat} {N : Net} (hr : NetRep w F g N) (hok : N.Ok) (h : Nat) (hh : h < N.queues.length) (K : Nat) (hKe : (arrived N.time (N.queues.getD h [])).length = K) (hK : K < (N.queues.getD h []).length) :
    Calls Try.prog 16 #[.pointer (some ⟨g, 0, none⟩), .int .i64 h] w (RecvPost F g ⟨N.fates, N.time, N.waiting - K, N.queues.set h ((N.queues.getD h []).drop K)⟩ (((N.queues.getD h []).take K).map (·.p)) 0 w) := by
  have eh : okHouse N.queues.length h = true := by simp [okHouse, hh]
  obtain ⟨i0, hi0, hz0, hz1, hz2⟩ := info_parts info31
  generalize hZ : Value.agg #[.int .i64 0, .int .i64 0, .string ByteArray.empty] = i0z at hz0
  have HZ := Lib.hid hZ; clear hZ
  obtain ⟨fv, fblk, qb, vs, qblk, hr⟩ := hr
  have hqm : N.queues.getD h [] ∈ N.queues := by simp [hh]
  have hql : (N.queues.getD h []).length ≤ N.waiting := by rw [hok.wait]; exact len_le_total hqm
  have hlow := hok.low
  have hq := hr.queue h hh
  obtain ⟨qA, qcap, hqv, hqn, hqx⟩ := hq.val
  have c1 := hr.c1
  have c2 := hr.c2
  have c3 := hr.c3
  have kq := hr.cq h hh
  rw [hqv] at kq
  rw [hqv] at hq
  have z2 := hr.fz 2
  have zq := hr.fq h
  have hgq := hr.gq
  have ht := hok.time
  have harr := fun m x => arrived_get N.time (N.queues.getD h []) m x
  have hstop := fun x => arrived_stop N.time (N.queues.getD h []) x
  rw [hKe] at harr hstop
  clear hKe hqm
  generalize hQ : N.queues.getD h [] = q at *
  unfold maxLen at hqx
  have HQ := Lib.hid hQ; clear hQ
  have HA := Lib.hid harr; clear harr
  have HT := Lib.hid hstop; clear hstop
  have H := Lib.hid hr; clear hr
  have HR := Lib.hid hq; clear hq
  have Hok := Lib.hid hok; clear hok
  have HV := Lib.hid hqv; clear hqv
  have h0 : (0 : Int) ≤ (h : Int) := by omega
  have h1 : (h : Int) < (N.queues.length : Int) := by omega
  obtain ⟨qg, qoff, qcap', hblk, hv, _, _, hqgl, hcell, _⟩ := HR.out.form (by omega)
  injection hv with hvA _ hvc
  subst hvA hvc
  have HCC := Lib.hid hcell; clear hcell
  have HBK := Lib.hid hblk; clear hblk
  have hKb : ((K : Int) == (q.length : Int)) = false := by simp; omega
  go_enter Try.func16, Try.ntmps16
  go_wp2_with (go_at_call 30; refine (has_any _ ⟨_, _, _, _, _, H.out⟩).mono ?_; rintro e w' ⟨rfl, rfl⟩)
  go_loopw [7] (fun i wr => ∃ m nq : Nat, m ≤ K ∧ i = .int .i64 m ∧ wr = w.drewN nq) (fun i _ => K - (intOf i).toNat)
  case atStart => exact ⟨0, 0, Nat.zero_le _, rfl, rfl⟩
  case round =>
    obtain ⟨m, nq, hm, rfl, rfl⟩ := hrel
    by_cases hlt : m < K
    · have hcell := HCC.out
      obtain ⟨x, hx⟩ : ∃ x, q[m]? = some x := ⟨q[m], List.getElem?_eq_getElem (by omega)⟩
      have kc : w.cell? ⟨qg, qoff + m * 4 + 3, none⟩ = some (.int .i64 x.due) := by rw [Nat.add_assoc, hcell _ (by omega)]; exact get_flat _ 4 (fun _ => rfl) q m 3 x hx (by omega)
      have hdue : x.due ≤ N.time := HA.out m x hlt hx
      have HC := Lib.hid hcell; clear hcell
      have HX := Lib.hid hx; clear hx
      have hm1 : (m : Int) < (q.length : Int) := by omega
      have hm0 : (0 : Int) ≤ (m : Int) := by omega
      go_wp2
      go_quiet (fail)
      go_wp2
      go_roundw
      case rel => exact ⟨m + 1, _, by omega, by go_num, rfl⟩
      case measure => simp [intOf]; omega
    · obtain rfl : K = m := by omega
      obtain ⟨x, hx⟩ : ∃ x, q[K]? = some x := ⟨q[K], List.getElem?_eq_getElem (by omega)⟩
      have kc : w.cell? ⟨qg, qoff + K * 4 + 3, none⟩ = some (.int .i64 x.due) := by rw [Nat.add_assoc, HCC.out _ (by omega)]; exact get_flat _ 4 (fun _ => rfl) q K 3 x hx (by omega)
      have hdue : (N.time : Int) < x.due := HT.out x hx
      have HX := Lib.hid hx; clear hx
      have hm1 : (K : Int) < (q.length : Int) := by omega
      have hm0 : (0 : Int) ≤ (K : Int) := by omega
      have hd : decide (x.due ≤ (N.time : Int)) = false := by simpa using hdue
      go_wp2
      go_quiet (fail)
      go_wp2
      generalize hWd : World.drewN w _ = W
      have HUW : Upd F w W := by rw [← hWd]; exact (Upd.refl _ _).drewN _
      have HW : Hid (NetAt W F g N fv fblk qb vs qblk) := by rw [← hWd]; exact H.out.keep (S := fun _ => False) ((Upd.refl _ _).drewN _) (fun _ _ h => h)
      have HRW : Hid (RowAt W 66 4 (.slice (some ⟨qg, qoff, none⟩) q.length qcap) q.length (flatL q) (qblk h)) := by rw [← hWd]; exact HR.out.keep (S := fun _ => False) ((Upd.refl _ _).drewN _) (fun _ _ h => h)
      clear hWd c1 c2 c3 kq z2 zq HR hd kc
      have k3 := HW.out.c3
      have kq := HW.out.cq h hh
      have zq := HW.out.fq h
      have r2 : ∀ V, (W.setCell ⟨qb, h, none⟩ V).cell? ⟨g, 2, none⟩ = some (.int .i64 N.waiting) := fun V => by
        rw [World.cell?_setCell_other _ _ _ _ (fun e => hgq (by first | exact congrArg Addr.block e | exact (congrArg Addr.block e).symm))]
        exact HW.out.c2
      have f2 : ∀ V, (W.setCell ⟨qb, h, none⟩ V).frozen? ⟨g, 2, none⟩ = false := fun V => by
        rw [World.frozen?_of_block (w := W) (a := ⟨g, 2, none⟩) (Below.heap_setCell _ _ _ _ hgq)]
        exact HW.out.fz 2
      have r3 : ∀ V U, ((W.setCell ⟨qb, h, none⟩ V).setCell ⟨g, 2, none⟩ U).cell? ⟨g, 3, none⟩ = some (.slice (some ⟨qb, 0, none⟩) N.queues.length N.queues.length) := fun V U => by
        rw [World.cell?_setCell_other _ _ _ _ (fun e => by simp at e), World.cell?_setCell_other _ _ _ _ (fun e => hgq (by first | exact congrArg Addr.block e | exact (congrArg Addr.block e).symm))]
        exact HW.out.c3
      have hqs : ∀ V, (W.setCell ⟨qb, h, none⟩ V).heap[qb]? = some (.cells (vs.toArray.setIfInBounds h V) 64 (0, 0)) := fun V => heap_setCell_same HW.out.row V
      have hvl : h < vs.length := by rw [HW.out.len]; exact hh
      have rq : ∀ V U, ((W.setCell ⟨qb, h, none⟩ V).setCell ⟨g, 2, none⟩ U).cell? ⟨qb, h, none⟩ = some V := fun V U => by
        rw [World.cell?_of_block (w := W.setCell ⟨qb, h, none⟩ V) (a := ⟨qb, h, none⟩) (Below.heap_setCell _ _ _ _ (fun e => hgq e.symm))]
        simp [World.cell?, hqs, hvl]
      have zz : ∀ V U, ((W.setCell ⟨qb, h, none⟩ V).setCell ⟨g, 2, none⟩ U).frozen? ⟨qb, h, none⟩ = false := fun V U => by
        rw [World.frozen?_of_block (w := W.setCell ⟨qb, h, none⟩ V) (a := ⟨qb, h, none⟩) (Below.heap_setCell _ _ _ _ (fun e => hgq e.symm))]
        simp [World.frozen?, hqs]
      have HQS := Lib.hid hqs; clear hqs
      have hww : (0 : Int) ≤ (N.waiting : Int) - (K : Int) := by omega
      go_region
      go_upto_region 12 with (fail)
      obtain ⟨Wm, HWm⟩ : ∃ Wm, Hid (Wm = ((W.setCell ⟨qb, h, none⟩ (.slice (some ⟨qg, qoff + K * 4, none⟩) (q.length - K) (q.length - K))).setCell ⟨g, 2, none⟩ (.int .i64 ((N.waiting : Int) - K))).drew) := ⟨_, rfl⟩
      rw [← HWm.out]
      have hcut := HRW.out.cut (k := K) (c' := q.length - K) rfl (by omega) (by omega) (by omega)
      rw [show (flatL q).drop (K * 4) = flatL (q.drop K) from drop_flat _ 4 (fun _ => rfl) q K] at hcut
      have hfin := recv_store2 HW.out h hh (.slice (some ⟨qg, qoff + K * 4, none⟩) (q.length - K) (q.length - K)) (q.drop K) (qblk h) (by simp) hcut (.inr rfl) (N.waiting - K)
      rw [show (((N.waiting - K : Nat)) : Int) = (N.waiting : Int) - K by omega] at hfin
      obtain ⟨hfin1, hfin2, hfin3⟩ := hfin
      have HNm : Hid (NetRep Wm F g ⟨N.fates, N.time, N.waiting - K, N.queues.set h (q.drop K)⟩) := by rw [HWm.out]; exact hfin1.keep (S := fun _ => False) ((Upd.refl _ _).drew) (fun _ _ h => h)
      have HUm : Upd F w Wm := by rw [HWm.out]; exact (HUW.trans hfin2 (fun _ _ h => h)).drew
      have HRm : Hid (RowAt Wm 66 4 (.slice (some ⟨qg, qoff, none⟩) q.length qcap) q.length (flatL q) (qblk h)) := by rw [HWm.out]; exact HRW.out.keep hfin3.drew (fun k hk => by
        rintro (rfl | rfl)
        · exact HRW.out.ne_type HW.out.head (by decide) hk
        · exact HRW.out.ne_type HW.out.row (by decide) hk)
      clear hfin1 hfin2 hfin3 hcut
      have HQG := Lib.hid hqgl; clear hqgl
      clear k3 kq zq r2 f2 r3 rq zz
      have hmk : ∀ W : World, (Instr.makeSlice 36 (.int .i64 0) (.int .i64 (K : Int))).run Try.prog W = .ok (.slice (some ⟨W.heap.size, 0, none⟩) 0 K) (W.alloc (.cells (madeCells i0z.cells (K * 3)) 31)) := fun W => by
        have hmk0 := run_make_rowN (P := Try.prog) 36 31 i0 i0z Try.underlying36 hi0 hz0 .i64 .i64 0 K (Nat.zero_le _) (by rw [hz2]; omega) (by omega) W
        rw [hz1] at hmk0
        exact hmk0
      have hz3 : i0z.cells.size = 3 := by rw [← HZ.out]; rfl
      have hms : ∀ n, (madeCells i0z.cells n).size = n := fun n => size_madeCells _ n
      generalize hMC : madeCells i0z.cells (K * 3) = MC at hmk
      have hMs : MC.size = K * 3 := by rw [← hMC]; exact hms _
      have HMs := Lib.hid hMs; clear hMs hms hMC
      go_wp2
      go_loopw [9, 84] (fun v i wr => ∃ (m : Nat) (A9 : Option Addr) (c9 b9 : Nat), m ≤ K ∧ i = .int .i64 m ∧ v = .slice A9 m c9 ∧ Hid (RowAt wr 31 3 (.slice A9 m c9) m (flatP ((q.take m).map (·.p))) (some b9)) ∧ Wm.heap.size ≤ b9 ∧ Below Wm.heap.size Wm wr) (fun _ i _ => K - (intOf i).toNat)
      case atStart => exact ⟨0, _, _, Wm.heap.size, Nat.zero_le _, rfl, rfl, RowAt.newCap Wm 31 3 MC K (by unfold maxLen; omega) HMs.out, Nat.le_refl _, (Below.refl _ _).alloc (Nat.le_refl _) _⟩
      case round =>
        obtain ⟨m, A9, c9, b9, hm, rfl, rfl, HP, hb9, hbel⟩ := hrel
        by_cases hlt : m < K
        · obtain ⟨qg', qoff', qcap', hblk, hv, _, _, hqgl, hcell, _⟩ := HRm.out.form (by omega)
          injection hv with hvA _ hvc
          injection hvA with hvA
          injection hvA with hv1 hv2
          subst hv1 hv2 hvc
          obtain ⟨x, hx⟩ : ∃ x, q[m]? = some x := ⟨q[m], List.getElem?_eq_getElem (by omega)⟩
          have hcw : ∀ j, j < 4 → wr.cell? ⟨qg, qoff + m * 4 + j, none⟩ = x.cells[j]? := fun j hj => by
            rw [hbel.cell (p := ⟨qg, qoff + m * 4 + j, none⟩) hqgl, Nat.add_assoc, hcell _ (by omega)]
            exact get_flat _ 4 (fun _ => rfl) q m j x hx hj
          obtain ⟨⟨xa, xb, xs⟩, xd⟩ := x
          have k0 : wr.cell? ⟨qg, qoff + m * 4, none⟩ = some (.int .i64 xa) := hcw 0 (by omega)
          have k1 : wr.cell? ⟨qg, qoff + m * 4 + 1, none⟩ = some (.int .i64 xb) := hcw 1 (by omega)
          have k2 : wr.cell? ⟨qg, qoff + m * 4 + 2, none⟩ = some (.string xs) := hcw 2 (by omega)
          have k3 : wr.cell? ⟨qg, qoff + m * 4 + 3, none⟩ = some (.int .i64 xd) := hcw 3 (by omega)
          have hqw : qg < wr.heap.size := Nat.lt_of_lt_of_le hqgl hbel.size
          have hu2 : Upd (fun _ => False) wr ((wr.alloc (.cells #[.int .i64 xa, .int .i64 xb, .string xs, .int .i64 xd] 66)).alloc (.cells #[.int .i64 xa, .int .i64 xb, .string xs] 31)) := ((Upd.refl _ wr).alloc _).alloc _
          obtain ⟨v', w', blk', hrun, hrow', hu', hb'⟩ := run_append_row (P := Try.prog) ((wr.alloc (.cells #[.int .i64 xa, .int .i64 xb, .string xs, .int .i64 xd] 66)).alloc (.cells #[.int .i64 xa, .int .i64 xb, .string xs] 31)) 36 36 31 i0 i0z 3 32 Try.underlying36 hi0 hz0 hz1 hz2 hz3 (.slice A9 m c9) m _ (some b9) (HP.out.keep hu2 (fun _ _ h => h))
            (some ⟨wr.heap.size + 1, 0, none⟩) 1 1 (Pkt.cells ⟨xa, xb, xs⟩) (src_new (wr.alloc (.cells #[.int .i64 xa, .int .i64 xb, .string xs, .int .i64 xd] 66)) (Pkt.cells ⟨xa, xb, xs⟩) 3 31 (by simp [Pkt.cells, Value.oneCell']) rfl (by simp)) (by unfold maxLen; omega) (by omega)
          obtain ⟨A', c', rfl, _, _⟩ := hrow'.val
          have HRUN := Lib.hid hrun; clear hrun
          have HROW := Lib.hid hrow'; clear hrow'
          have HB' := Lib.hid hb'; clear hb'
          have HX := Lib.hid hx; clear hx
          have HCW := Lib.hid hcw; clear hcw
          have HC := Lib.hid hcell; clear hcell
          have HBK2 := Lib.hid hblk; clear hblk
          have hm1 : (m : Int) < (K : Int) := by omega
          go_wp2_with (at_builtin; refine wpList_append_run rfl _ _ _ _ rfl _ _ rfl rfl HRUN.out ?_)
          go_roundw
          case rel =>
            have hbw : Below Wm.heap.size Wm w' := hbel.trans (((Upd.below (hu2.mono (S' := fun k => some b9 = some k) (fun _ _ h => h.elim)) hbel.size (fun k hk => by injection hk with hk; omega))).trans (hu'.below (Nat.le_trans hbel.size hu2.size) (fun k hk => by injection hk with hk; omega)))
            obtain ⟨b', hbe, hbl⟩ : ∃ b', blk' = some b' ∧ Wm.heap.size ≤ b' := by
              rcases HB'.out with e | ⟨b', e, hb'⟩
              · exact ⟨b9, e, hb9⟩
              · exact ⟨b', e, Nat.le_trans (Nat.le_trans hbel.size hu2.size) hb'⟩
            exact ⟨m + 1, A', c', b', by omega, by go_num, rfl, by
              rw [← hbe]
              have h1 := HROW.out
              rw [take_map_snoc q m _ HX.out]
              exact h1, hbl, hbw⟩
          case measure => simp [intOf]; omega
        · obtain rfl : K = m := by omega
          go_wp2
          go_ret2
          refine ⟨_, some b9, rfl, ?_, fun k hk => ?_, HNm.out.keep (Upd.of_below hbel) (fun k hk hc => by have := HNm.out; obtain ⟨_, _, _, _, _, hx⟩ := this; have := hx.lt k hk; omega), HUm.trans (Upd.of_below hbel) (fun i hi hc => by have := HUm.size; omega)⟩
          · have h1 := HP.out
            rw [show (List.map (·.p) (List.take K q)).length = K by simp; omega]
            exact h1
          · injection hk with hk
            have := HUm.size
            omega

theorem recv_net {w : World} {F : Nat → Prop} {g : Nat} {N : Net} (hr : NetRep w F g N) (hok : N.Ok) (h : Int) :
    Calls Try.prog 16 #[.pointer (some ⟨g, 0, none⟩), .int .i64 h] w (RecvPost F g (N.recv h).1 (N.recv h).2.1 (N.recv h).2.2 w) := by
  cases eh : okHouse N.queues.length h with
  | false =>
    have e : N.recv h = (N, [], 1) := by unfold Net.recv; rw [if_pos eh]
    rw [e]
    exact recv_bad hr h eh
  | true =>
    obtain ⟨h0, h1⟩ := okHouse_yes eh
    obtain ⟨h, rfl⟩ := Int.eq_ofNat_of_zero_le h0
    have hh : h < N.queues.length := by omega
    have e := arrived_eq N.time (N.queues.getD h [])
    have hle := arrived_le N.time (N.queues.getD h [])
    unfold Net.recv
    rw [if_neg (by simp [eh])]
    simp only [Int.toNat_natCast]
    by_cases hK : (arrived N.time (N.queues.getD h [])).length = (N.queues.getD h []).length
    · have h3 := recv_all hr hok h hh hK
      rw [e.1, e.2, hK, List.take_of_length_le (Nat.le_refl _), List.drop_of_length_le (Nat.le_refl _)]
      exact h3
    · have h3 := recv_part hr hok h hh _ rfl (by omega)
      rw [← e.1, ← e.2] at h3
      exact h3
end Go.Proofs.Ytfpiiehdmdmoeaa
