/-
  The contract of (*Network).Receive.
-/
import Derived.Test.YtfpiiehdmdmoeaaRep2
import Derived.Deep.DeepCutAuto
import Derived.Deep.LoopGhost
import Derived.Deep.CutBlock
namespace Go.Proofs.Ytfpiiehdmdmoeaa
open Go.RowKit

/-- Behind a Receive: the packets lie in a row of their own, the network's blocks are the same. -/
def RecvPost (F : Nat → Prop) (g : Nat) (N' : Net) (ps : List Pkt) (err : Int) (w : World) (e : Ending) (w' : World) : Prop :=
  ∃ v blk, e = .returned (.tuple #[v, .int .i64 err]) ∧ RowAt w' 31 3 v ps.length (flatP ps) blk ∧ (∀ k, blk = some k → w.heap.size ≤ k) ∧ NetRep w' F g N' ∧ Upd F w w'

theorem recv_nil (h : Int) (w : World) : Calls Try.prog 16 #[.pointer none, .int .i64 h] w (Ret (.tuple #[.slice none 0 0, .int .i64 1]) w) := by
  go_enter Try.func16, Try.ntmps16
  go_wp2
  go_ret2
  exact ⟨rfl, rfl⟩

theorem recv_bad {w : World} {F : Nat → Prop} {g : Nat} {N : Net} (hr : NetRep w F g N) (h : Int) (eh : okHouse N.queues.length h = false) :
    Calls Try.prog 16 #[.pointer (some ⟨g, 0, none⟩), .int .i64 h] w (RecvPost F g N [] 1 w) := by
  have H := Lib.hid hr; clear hr
  go_enter Try.func16, Try.ntmps16
  go_wp2_with (go_at_call 30; refine (has_any _ H.out).mono ?_; rintro e w' ⟨rfl, rfl⟩)
  go_ret2
  exact ⟨_, none, rfl, RowAt.nil _ _ _, (fun _ h => by cases h), H.out, Upd.refl _ _⟩

theorem info31 : (Try.prog.info? 31).map (fun i => (i.zero, i.size, i.bytes)) = some (some (.agg #[.int .i64 0, .int .i64 0, .string ByteArray.empty]), 3, 32) := by kernel_rfl

theorem run_make_rowN {P : Program} (t e : TypeId) (i : TypeInfo) (z : Value) (ht : P.underlying t = some (.slice e)) (hi : P.info? e = some i) (hz : i.zero = some z)
    (kl kc : IntKind) (n c : Nat) (hnc : n ≤ c) (hbytes : i.bytes * c ≤ 281474976710656) (h63 : c ≤ 9223372036854775807) (w : World) :
    (Instr.makeSlice t (.int kl (n : Int)) (.int kc (c : Int))).run P w = .ok (.slice (some ⟨w.heap.size, 0, none⟩) n c) (w.alloc (.cells (madeCells z.cells (c * i.size)) e)) := by
  have hb : (i.bytes : Int) * (c : Int) ≤ 281474976710656 := by
    have h : ((i.bytes * c : Nat) : Int) ≤ 281474976710656 := by omega
    rwa [Int.natCast_mul] at h
  have hr := run_make (P := P) w t e i z ht hi hz kl kc n c (by omega) (by omega) hb (by omega)
  simp only [Int.toNat_natCast] at hr
  exact hr

/-- A new block as what is appended. -/
theorem src_new (w : World) (cs : List Value) (size : Nat) (t : TypeId) (h1 : ∀ u ∈ cs, u.oneCell' = true) (hl : cs.length = size) {g : Nat} (hg : g = w.heap.size) : Src (w.alloc (.cells cs.toArray t)) size (some ⟨g, 0, none⟩) 1 cs :=
  ⟨by omega, h1, fun _ => ⟨_, rfl, fun j u hu => by
    subst hg
    rw [Addr.add_lit, Nat.zero_add, cell_of_row _ _ j _ _ _ (heap_alloc_new w _)]
    simpa using hu⟩⟩

theorem take_map_snoc (q : List Flight) (m : Nat) (x : Flight) (hx : q[m]? = some x) : flatP ((q.take (m + 1)).map (·.p)) = flatP ((q.take m).map (·.p)) ++ x.p.cells := by
  obtain ⟨hm, rfl⟩ := List.getElem?_eq_some_iff.1 hx
  rw [List.take_succ_eq_append_getElem hm]
  simp only [List.map_append, List.map_cons, List.map_nil, flatP, List.flatMap_append, List.flatMap_cons, List.flatMap_nil, List.append_nil]

/-- The stores of a Receive. -/
theorem recv_store {W : World} {F : Nat → Prop} {g : Nat} {N : Net} {fv : Value} {fblk : Option Nat} {qb : Nat} {vs : List Value} {qblk : Nat → Option Nat} (hr : NetAt W F g N fv fblk qb vs qblk) (h : Nat) (hh : h < N.queues.length)
    (V1 V2 : Value) (q' : List Flight) (blk' : Option Nat) (hrow : RowAt W 66 4 V2 q'.length (flatL q') blk') (hblk : blk' = none ∨ blk' = qblk h) (wait' : Nat) :
    NetRep (((W.setCell ⟨qb, h, none⟩ V1).setCell ⟨g, 2, none⟩ (.int .i64 wait')).setCell ⟨qb, h, none⟩ V2) F g ⟨N.fates, N.time, wait', N.queues.set h q'⟩ ∧
      Upd F W (((W.setCell ⟨qb, h, none⟩ V1).setCell ⟨g, 2, none⟩ (.int .i64 wait')).setCell ⟨qb, h, none⟩ V2) ∧
      Upd (fun k => k = g ∨ k = qb) W (((W.setCell ⟨qb, h, none⟩ V1).setCell ⟨g, 2, none⟩ (.int .i64 wait')).setCell ⟨qb, h, none⟩ V2) := by
  have hu : Upd (fun k => k = g ∨ k = qb) W (((W.setCell ⟨qb, h, none⟩ V1).setCell ⟨g, 2, none⟩ (.int .i64 wait')).setCell ⟨qb, h, none⟩ V2) :=
    (((Upd.refl (fun k => k = g ∨ k = qb) W).setCell (.inl (.inr rfl)) _).setCell (.inl (.inl rfl)) _).setCell (.inl (.inr rfl)) _
  have hg1 : (W.setCell ⟨qb, h, none⟩ V1).heap[g]? = _ := (Below.heap_setCell _ _ _ _ hr.gq).trans hr.head
  have hg2 := (heap_setCell_same (i := 2) hg1 (.int .i64 wait'))
  have hq1 := heap_setCell_same (i := h) hr.row V1
  have hq2 := (Below.heap_setCell (W.setCell ⟨qb, h, none⟩ V1) ⟨g, 2, none⟩ (.int .i64 wait') qb (fun e => hr.gq e.symm)).trans hq1
  have key := hr.setQueueG (w' := ((W.setCell ⟨qb, h, none⟩ V1).setCell ⟨g, 2, none⟩ (.int .i64 wait')).setCell ⟨qb, h, none⟩ V2) h hh q' V2 blk' wait' (F' := F) (fun _ h => h)
    (fun k hk => by
      rcases hblk with e | e
      · rw [e] at hk; cases hk
      · exact hr.inL h k hh (e ▸ hk)) (fun k hk => Nat.lt_of_lt_of_le (hr.lt k hk) hu.size)
    (hrow.keep hu (fun k hk => by
      rintro (rfl | rfl)
      · exact hrow.ne_type hr.head (by decide) hk
      · exact hrow.ne_type hr.row (by decide) hk)) (by rcases hblk with e | e; exact .inl e; exact .inr (.inl e))
    ((Below.heap_setCell _ _ _ _ hr.gq).trans (hg2.trans (by simp))) ((heap_setCell_same hq2 V2).trans (by simp)) (hu.mono (fun i _ hi => hi.elim .inl (fun h => .inr (.inl h))))
  exact ⟨key.1, key.2, hu⟩

set_option maxRecDepth 100000 in
set_option maxHeartbeats 1000000 in
theorem recv_all {w : World} {F : Nat → Prop} {g : Nat} {N : Net} (hr : NetRep w F g N) (hok : N.Ok) (h : Nat) (hh : h < N.queues.length) (hK : (arrived N.time (N.queues.getD h [])).length = (N.queues.getD h []).length) :
    Calls Try.prog 16 #[.pointer (some ⟨g, 0, none⟩), .int .i64 h] w (RecvPost F g ⟨N.fates, N.time, N.waiting - (N.queues.getD h []).length, N.queues.set h []⟩ ((N.queues.getD h []).map (·.p)) 0 w) := by
  have eh : okHouse N.queues.length h = true := by simp [okHouse, hh]
  obtain ⟨i0, hi0, hz0, hz1, hz2⟩ := info_parts info31
  generalize hZ : Value.agg #[.int .i64 0, .int .i64 0, .string ByteArray.empty] = i0z at hz0
  have HZ := Lib.hid hZ; clear hZ
  obtain ⟨fv, fblk, qb, vs, qblk, hr⟩ := hr
  have hqm : N.queues.getD h [] ∈ N.queues := by simp [hh]
  have hql : (N.queues.getD h []).length ≤ N.waiting := by rw [hok.wait]; exact len_le_total hqm
  have hlow := hok.low
  have hq := hr.queue h hh
  obtain ⟨qA, qcap, hqv, hqn, hqx⟩ := hq.val
  have c1 := hr.c1
  have c2 := hr.c2
  have c3 := hr.c3
  have kq := hr.cq h hh
  rw [hqv] at kq
  rw [hqv] at hq
  have z2 := hr.fz 2
  have zq := hr.fq h
  have hgq := hr.gq
  have ht := hok.time
  have harr := fun m x => arrived_get N.time (N.queues.getD h []) m x
  rw [hK] at harr
  clear hK hqm
  generalize hQ : N.queues.getD h [] = q at *
  unfold maxLen at hqx
  have HQ := Lib.hid hQ; clear hQ
  have HA := Lib.hid harr; clear harr
  have H := Lib.hid hr; clear hr
  have HR := Lib.hid hq; clear hq
  have Hok := Lib.hid hok; clear hok
  have HV := Lib.hid hqv; clear hqv
  have h0 : (0 : Int) ≤ (h : Int) := by omega
  have h1 : (h : Int) < (N.queues.length : Int) := by omega
  go_enter Try.func16, Try.ntmps16
  go_wp2_with (go_at_call 30; refine (has_any _ ⟨_, _, _, _, _, H.out⟩).mono ?_; rintro e w' ⟨rfl, rfl⟩)
  go_loopw [7] (fun i wr => ∃ m nq : Nat, m ≤ q.length ∧ i = .int .i64 m ∧ wr = w.drewN nq) (fun i _ => q.length - (intOf i).toNat)
  case atStart => exact ⟨0, 0, Nat.zero_le _, rfl, rfl⟩
  case round =>
    obtain ⟨m, nq, hm, rfl, rfl⟩ := hrel
    by_cases hlt : m < q.length
    · obtain ⟨qg, qoff, qcap', hblk, hv, _, _, hqgl, hcell, _⟩ := HR.out.form (by omega)
      injection hv with hvA _ hvc
      subst hvA hvc
      obtain ⟨x, hx⟩ : ∃ x, q[m]? = some x := ⟨q[m], List.getElem?_eq_getElem (by omega)⟩
      have kc : w.cell? ⟨qg, qoff + m * 4 + 3, none⟩ = some (.int .i64 x.due) := by rw [Nat.add_assoc, hcell _ (by omega)]; exact get_flat _ 4 (fun _ => rfl) q m 3 x hx (by omega)
      have hdue : x.due ≤ N.time := HA.out m x hlt hx
      have HC := Lib.hid hcell; clear hcell
      have HX := Lib.hid hx; clear hx
      have HB := Lib.hid hblk; clear hblk
      have hm1 : (m : Int) < (q.length : Int) := by omega
      have hm0 : (0 : Int) ≤ (m : Int) := by omega
      go_wp2
      go_quiet (fail)
      go_wp2
      go_roundw
      case rel => exact ⟨m + 1, _, by omega, by go_num, rfl⟩
      case measure => simp [intOf]; omega
    · obtain rfl : q.length = m := by omega
      have hd : decide ((q.length : Int) < (q.length : Int)) = false := by simp
      go_wp2
      go_quiet (fail)
      go_wp2
      generalize hWd : World.drewN w _ = W
      have HUW : Upd F w W := by rw [← hWd]; exact (Upd.refl _ _).drewN _
      have HW : Hid (NetAt W F g N fv fblk qb vs qblk) := by rw [← hWd]; exact H.out.keep (S := fun _ => False) ((Upd.refl _ _).drewN _) (fun _ _ h => h)
      have HRW : Hid (RowAt W 66 4 (.slice qA q.length qcap) q.length (flatL q) (qblk h)) := by rw [← hWd]; exact HR.out.keep (S := fun _ => False) ((Upd.refl _ _).drewN _) (fun _ _ h => h)
      clear hWd c1 c2 c3 kq z2 zq HR hd
      have k3 := HW.out.c3
      have kq := HW.out.cq h hh
      have zq := HW.out.fq h
      have r2 : ∀ V, (W.setCell ⟨qb, h, none⟩ V).cell? ⟨g, 2, none⟩ = some (.int .i64 N.waiting) := fun V => by
        rw [World.cell?_setCell_other _ _ _ _ (fun e => hgq (by first | exact congrArg Addr.block e | exact (congrArg Addr.block e).symm))]
        exact HW.out.c2
      have f2 : ∀ V, (W.setCell ⟨qb, h, none⟩ V).frozen? ⟨g, 2, none⟩ = false := fun V => by
        rw [World.frozen?_of_block (w := W) (a := ⟨g, 2, none⟩) (Below.heap_setCell _ _ _ _ hgq)]
        exact HW.out.fz 2
      have r3 : ∀ V U, ((W.setCell ⟨qb, h, none⟩ V).setCell ⟨g, 2, none⟩ U).cell? ⟨g, 3, none⟩ = some (.slice (some ⟨qb, 0, none⟩) N.queues.length N.queues.length) := fun V U => by
        rw [World.cell?_setCell_other _ _ _ _ (fun e => by simp at e), World.cell?_setCell_other _ _ _ _ (fun e => hgq (by first | exact congrArg Addr.block e | exact (congrArg Addr.block e).symm))]
        exact HW.out.c3
      have hqs : ∀ V, (W.setCell ⟨qb, h, none⟩ V).heap[qb]? = some (.cells (vs.toArray.setIfInBounds h V) 64 (0, 0)) := fun V => heap_setCell_same HW.out.row V
      have hvl : h < vs.length := by rw [HW.out.len]; exact hh
      have rq : ∀ V U, ((W.setCell ⟨qb, h, none⟩ V).setCell ⟨g, 2, none⟩ U).cell? ⟨qb, h, none⟩ = some V := fun V U => by
        rw [World.cell?_of_block (w := W.setCell ⟨qb, h, none⟩ V) (a := ⟨qb, h, none⟩) (Below.heap_setCell _ _ _ _ (fun e => hgq e.symm))]
        simp [World.cell?, hqs, hvl]
      have zz : ∀ V U, ((W.setCell ⟨qb, h, none⟩ V).setCell ⟨g, 2, none⟩ U).frozen? ⟨qb, h, none⟩ = false := fun V U => by
        rw [World.frozen?_of_block (w := W.setCell ⟨qb, h, none⟩ V) (a := ⟨qb, h, none⟩) (Below.heap_setCell _ _ _ _ (fun e => hgq e.symm))]
        simp [World.frozen?, hqs]
      have HQS := Lib.hid hqs; clear hqs
      have hww : (0 : Int) ≤ (N.waiting : Int) - (q.length : Int) := by omega
      go_region
      go_upto_region 12 with (fail)
      obtain ⟨Wm, HWm⟩ : ∃ Wm, Hid (Wm = (((W.setCell ⟨qb, h, none⟩ (.slice qA 0 0)).setCell ⟨g, 2, none⟩ (.int .i64 ((N.waiting : Int) - q.length))).setCell ⟨qb, h, none⟩ (.slice none 0 0)).drew) := ⟨_, rfl⟩
      rw [← HWm.out]
      have hfin := recv_store HW.out h hh (.slice qA 0 0) (.slice none 0 0) [] none (RowAt.nil _ _ _) (.inl rfl) (N.waiting - q.length)
      rw [show (((N.waiting - q.length : Nat)) : Int) = (N.waiting : Int) - q.length by omega] at hfin
      obtain ⟨hfin1, hfin2, hfin3⟩ := hfin
      have HNm : Hid (NetRep Wm F g ⟨N.fates, N.time, N.waiting - q.length, N.queues.set h []⟩) := by rw [HWm.out]; exact hfin1.keep (S := fun _ => False) ((Upd.refl _ _).drew) (fun _ _ h => h)
      have HUm : Upd F w Wm := by rw [HWm.out]; exact (HUW.trans hfin2 (fun _ _ h => h)).drew
      have HRm : Hid (RowAt Wm 66 4 (.slice qA q.length qcap) q.length (flatL q) (qblk h)) := by rw [HWm.out]; exact HRW.out.keep hfin3.drew (fun k hk => by
        rintro (rfl | rfl)
        · exact HRW.out.ne_type HW.out.head (by decide) hk
        · exact HRW.out.ne_type HW.out.row (by decide) hk)
      clear hfin1 hfin2 hfin3
      clear k3 kq zq r2 f2 r3 rq zz
      have hmk : ∀ W : World, (Instr.makeSlice 36 (.int .i64 0) (.int .i64 (q.length : Int))).run Try.prog W = .ok (.slice (some ⟨W.heap.size, 0, none⟩) 0 q.length) (W.alloc (.cells (madeCells i0z.cells (q.length * 3)) 31)) := fun W => by
        have hmk0 := run_make_rowN (P := Try.prog) 36 31 i0 i0z Try.underlying36 hi0 hz0 .i64 .i64 0 q.length (Nat.zero_le _) (by rw [hz2]; omega) (by omega) W
        rw [hz1] at hmk0
        exact hmk0
      have hz3 : i0z.cells.size = 3 := by rw [← HZ.out]; rfl
      have hms : ∀ n, (madeCells i0z.cells n).size = n := fun n => size_madeCells _ n
      generalize hMC : madeCells i0z.cells (q.length * 3) = MC at hmk
      have hMs : MC.size = q.length * 3 := by rw [← hMC]; exact hms _
      have HMs := Lib.hid hMs; clear hMs hms hMC
      go_wp2
      go_loopw [9, 84] (fun v i wr => ∃ (m : Nat) (A9 : Option Addr) (c9 b9 : Nat), m ≤ q.length ∧ i = .int .i64 m ∧ v = .slice A9 m c9 ∧ Hid (RowAt wr 31 3 (.slice A9 m c9) m (flatP ((q.take m).map (·.p))) (some b9)) ∧ Wm.heap.size ≤ b9 ∧ Below Wm.heap.size Wm wr) (fun _ i _ => q.length - (intOf i).toNat)
      case atStart => exact ⟨0, _, _, Wm.heap.size, Nat.zero_le _, rfl, rfl, RowAt.newCap Wm 31 3 MC q.length (by unfold maxLen; omega) HMs.out, Nat.le_refl _, (Below.refl _ _).alloc (Nat.le_refl _) _⟩
      case round =>
        obtain ⟨m, A9, c9, b9, hm, rfl, rfl, HP, hb9, hbel⟩ := hrel
        by_cases hlt : m < q.length
        · obtain ⟨qg, qoff, qcap', hblk, hv, _, _, hqgl, hcell, _⟩ := HRm.out.form (by omega)
          injection hv with hvA _ hvc
          subst hvA hvc
          obtain ⟨x, hx⟩ : ∃ x, q[m]? = some x := ⟨q[m], List.getElem?_eq_getElem (by omega)⟩
          have hcw : ∀ j, j < 4 → wr.cell? ⟨qg, qoff + m * 4 + j, none⟩ = x.cells[j]? := fun j hj => by
            rw [hbel.cell (p := ⟨qg, qoff + m * 4 + j, none⟩) hqgl, Nat.add_assoc, hcell _ (by omega)]
            exact get_flat _ 4 (fun _ => rfl) q m j x hx hj
          obtain ⟨⟨xa, xb, xs⟩, xd⟩ := x
          have k0 : wr.cell? ⟨qg, qoff + m * 4, none⟩ = some (.int .i64 xa) := hcw 0 (by omega)
          have k1 : wr.cell? ⟨qg, qoff + m * 4 + 1, none⟩ = some (.int .i64 xb) := hcw 1 (by omega)
          have k2 : wr.cell? ⟨qg, qoff + m * 4 + 2, none⟩ = some (.string xs) := hcw 2 (by omega)
          have k3 : wr.cell? ⟨qg, qoff + m * 4 + 3, none⟩ = some (.int .i64 xd) := hcw 3 (by omega)
          have hqw : qg < wr.heap.size := Nat.lt_of_lt_of_le hqgl hbel.size
          have hu2 : Upd (fun _ => False) wr ((wr.alloc (.cells #[.int .i64 xa, .int .i64 xb, .string xs, .int .i64 xd] 66)).alloc (.cells #[.int .i64 xa, .int .i64 xb, .string xs] 31)) := ((Upd.refl _ wr).alloc _).alloc _
          obtain ⟨v', w', blk', hrun, hrow', hu', hb'⟩ := run_append_row (P := Try.prog) ((wr.alloc (.cells #[.int .i64 xa, .int .i64 xb, .string xs, .int .i64 xd] 66)).alloc (.cells #[.int .i64 xa, .int .i64 xb, .string xs] 31)) 36 36 31 i0 i0z 3 32 Try.underlying36 hi0 hz0 hz1 hz2 hz3 (.slice A9 m c9) m _ (some b9) (HP.out.keep hu2 (fun _ _ h => h))
            (some ⟨wr.heap.size + 1, 0, none⟩) 1 1 (Pkt.cells ⟨xa, xb, xs⟩) (src_new (wr.alloc (.cells #[.int .i64 xa, .int .i64 xb, .string xs, .int .i64 xd] 66)) (Pkt.cells ⟨xa, xb, xs⟩) 3 31 (by simp [Pkt.cells, Value.oneCell']) rfl (by simp)) (by unfold maxLen; omega) (by omega)
          obtain ⟨A', c', rfl, _, _⟩ := hrow'.val
          have HRUN := Lib.hid hrun; clear hrun
          have HROW := Lib.hid hrow'; clear hrow'
          have HB' := Lib.hid hb'; clear hb'
          have HX := Lib.hid hx; clear hx
          have HCW := Lib.hid hcw; clear hcw
          have HC := Lib.hid hcell; clear hcell
          have HBK := Lib.hid hblk; clear hblk
          have hm1 : (m : Int) < (q.length : Int) := by omega
          go_wp2_with (at_builtin; refine wpList_append_run rfl _ _ _ _ rfl _ _ rfl rfl HRUN.out ?_)
          go_roundw
          case rel =>
            have hbw : Below Wm.heap.size Wm w' := hbel.trans (((Upd.below (hu2.mono (S' := fun k => some b9 = some k) (fun _ _ h => h.elim)) hbel.size (fun k hk => by injection hk with hk; omega))).trans (hu'.below (Nat.le_trans hbel.size hu2.size) (fun k hk => by injection hk with hk; omega)))
            obtain ⟨b', hbe, hbl⟩ : ∃ b', blk' = some b' ∧ Wm.heap.size ≤ b' := by
              rcases HB'.out with e | ⟨b', e, hb'⟩
              · exact ⟨b9, e, hb9⟩
              · exact ⟨b', e, Nat.le_trans (Nat.le_trans hbel.size hu2.size) hb'⟩
            exact ⟨m + 1, A', c', b', by omega, by go_num, rfl, by
              rw [← hbe]
              have h1 := HROW.out
              rw [take_map_snoc q m _ HX.out]
              exact h1, hbl, hbw⟩
          case measure => simp [intOf]; omega
        · obtain rfl : q.length = m := by omega
          go_wp2
          go_ret2
          refine ⟨_, some b9, rfl, ?_, fun k hk => ?_, HNm.out.keep (Upd.of_below hbel) (fun k hk hc => by have := HNm.out; obtain ⟨_, _, _, _, _, hx⟩ := this; have := hx.lt k hk; omega), HUm.trans (Upd.of_below hbel) (fun i hi hc => by have := HUm.size; omega)⟩
          · have h1 := HP.out
            simpa using h1
          · injection hk with hk
            have := HUm.size
            omega
end Go.Proofs.Ytfpiiehdmdmoeaa
