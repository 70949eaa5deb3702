/-
  The contract of (*Network).Send where the packet is valid and its fate has copies.
-/
import Derived.Test.YtfpiiehdmdmoeaaSend3
import Derived.Deep.DeepCutAuto
import Derived.Deep.LoopGhost
import Derived.Deep.CutBlock
namespace Go.Proofs.Ytfpiiehdmdmoeaa
open Go.RowKit

set_option maxRecDepth 100000 in
set_option maxHeartbeats 1000000 in
theorem send_some1 {w : World} {F : Nat → Prop} {g : Nat} {N : Net} (hr : NetRep w F g N) (hok : N.Ok) (p : Pkt) (hb : okSend N.queues.length p = true) (f : Fate) (fs : List Fate) (hf : N.fates = f :: fs) (hl : f.lost = false) (hlow : N.waiting + f.many ≤ 4000) (hcap : ∀ fv fblk qb vs qblk A n cap, NetAt w F g N fv fblk qb vs qblk → fv = .slice A n cap → cap = 1) :
    Calls Try.prog 14 #[.pointer (some ⟨g, 0, none⟩), .agg #[.int .i64 p.frm, .int .i64 p.dst, .string p.body]] w (NetPost (.int .i64 0) F g (N.send p).1 w) := by
  obtain ⟨fl, c, d⟩ := f
  obtain rfl : fl = false := hl
  obtain ⟨a, b, s⟩ := p
  have hr1 : NetRep (w.alloc (.cells #[.int .i64 a, .int .i64 b, .string s] 31)) F g N := hr.keep (S := fun _ => False) ((Upd.refl _ w).alloc _) (fun _ _ h => h)
  obtain ⟨fv, fblk, qb, vs, qblk, hr⟩ := hr
  simp only [okSend, Bool.and_eq_true] at hb
  obtain ⟨⟨ea, eb⟩, eab⟩ := hb
  have eab' : (a == b) = false := by simpa using eab
  have hgl := hr.lt g hr.inG
  have ht := hok.time
  obtain ⟨fb, foff, fcap, hfbk, hfv, hfc1, hfc2, hfbl, hfcell, _⟩ := hr.fates.form (by rw [hf]; simp)
  subst hfv
  rw [hf] at hfcell
  have hfl : N.fates.length = fs.length + 1 := by rw [hf]; rfl
  rw [hfl] at hfc1
  unfold maxLen at hfc2
  have x0 : w.cell? ⟨fb, foff, none⟩ = some (.bool false) := (hfcell 0 (by simp)).trans rfl
  have x1 : w.cell? ⟨fb, foff + 1, none⟩ = some (.int .i64 c) := (hfcell 1 (by simp; omega)).trans rfl
  have x2 : w.cell? ⟨fb, foff + 2, none⟩ = some (.int .i64 d) := (hfcell 2 (by simp; omega)).trans rfl
  have hc1 := hcap _ _ _ _ _ _ _ _ hr rfl
  clear hcap
  have hfok := hok.fates ⟨false, c, d⟩ (by rw [hf]; simp)
  simp [Fate.ok] at hfok
  obtain ⟨⟨⟨hc0, hc9⟩, hd0⟩, hd1⟩ := hfok
  obtain ⟨cn, rfl⟩ := Int.eq_ofNat_of_zero_le (show 0 ≤ c by omega)
  have hlow' : N.waiting + cn ≤ 4000 := by simpa [Fate.many] using hlow
  clear hlow
  have hcb : ((cn : Int) == 0) = false := by simp; omega
  have c0 := hr.c0
  rw [hfl] at c0
  have c1 := hr.c1
  have c2 := hr.c2
  have c3 := hr.c3
  have z0 := hr.fz 0
  have hlow4 := hok.low
  have H := Lib.hid hr; clear hr
  have H1 := Lib.hid hr1; clear hr1
  have Hok := Lib.hid hok; clear hok
  have Hf := Lib.hid hf; clear hf
  have Hfl := Lib.hid hfl; clear hfl
  have Hfc := Lib.hid hfcell; clear hfcell
  have hcut : RowAt w 51 3 (.slice (some ⟨fb, foff, none⟩) fs.length 0) fs.length (flatF fs) fblk := cut_fates H.out Hf.out (by rw [if_pos hc1, hc1]) hfc1
  have HC := Lib.hid hcut; clear hcut
  go_enter Try.func14, Try.ntmps14
  go_wp2_with (go_at_call 30; refine (has_any _ H1.out).mono ?_; rintro e w' ⟨rfl, rfl⟩)
  obtain ⟨W1, HW1⟩ : ∃ W1, Hid (W1 = ((w.setCell ⟨g, 0, none⟩ (.slice (some ⟨fb, foff, none⟩) fs.length 0)).alloc (.cells #[.int .i64 a, .int .i64 b, .string s] 31)).alloc (.cells #[.bool false, .int .i64 cn, .int .i64 d] 51)) := ⟨_, rfl⟩
  obtain ⟨hsf1, hsf2⟩ := H.out.setFates (.slice (some ⟨fb, foff, none⟩) fs.length 0) fs HC.out rfl
  have HU1 : Upd F w W1 := by rw [HW1.out]; exact ((hsf2.mono (S' := F) (fun i _ hi => by rw [hi]; exact H.out.inG)).alloc _).alloc _
  have HN : Hid (NetAt W1 F g ⟨fs, N.time, N.waiting, N.queues⟩ (.slice (some ⟨fb, foff, none⟩) fs.length 0) fblk qb vs qblk) := hsf1.keep (S := fun _ => False) (by rw [HW1.out]; exact (((Upd.refl _ _).alloc _).alloc _)) (fun _ _ h => h)
  have kp0 : W1.cell? ⟨w.heap.size, 0, none⟩ = some (.int .i64 a) := by rw [HW1.out]; go_simp
  have kp1 : W1.cell? ⟨w.heap.size, 1, none⟩ = some (.int .i64 b) := by rw [HW1.out]; go_simp
  have kp2 : W1.cell? ⟨w.heap.size, 2, none⟩ = some (.string s) := by rw [HW1.out]; go_simp
  have kd : W1.cell? ⟨w.heap.size + 1, 2, none⟩ = some (.int .i64 d) := by rw [HW1.out]; go_simp
  have HS1 : Hid (W1.heap.size = w.heap.size + 2) := by show _ = _; rw [HW1.out]; simp
  clear hsf1 hsf2
  rw [← HW1.out]
  have k1 : W1.cell? ⟨g, 1, none⟩ = some (.int .i64 N.time) := HN.out.c1
  have k3 : W1.cell? ⟨g, 3, none⟩ = some (.slice (some ⟨qb, 0, none⟩) N.queues.length N.queues.length) := HN.out.c3
  clear c0 c1 c2 c3 x0 x1 x2 z0
  have hwr : IntKind.i64.wrap ((N.time : Int) + d) = (N.time : Int) + d := IntWalk.i64_in _ (by omega)
  go_quiet (fail)
  have b0 := (okHouse_yes eb).1
  have b1 := (okHouse_yes eb).2
  clear hwr
  obtain ⟨h, rfl⟩ := Int.eq_ofNat_of_zero_le b0
  have hh : h < N.queues.length := by omega
  have kq : W1.cell? ⟨qb, h, none⟩ = some (vs.getD h undef) := HN.out.cq h hh
  obtain ⟨qA, qcap, hqv, hqn, hqx⟩ := (HN.out.queue h hh).val
  rw [hqv] at kq
  have HQV := Lib.hid hqv; clear hqv
  generalize hQ : N.queues.getD h [] = q at kq
  have HQ := Lib.hid hQ; clear hQ
  go_wp2
  go_quiet (fail)
  generalize hW2 : World.drewN (World.drewN W1 _) _ = W2
  have HU2 : Upd F w W2 := by rw [← hW2]; exact (HU1.drewN _).drewN _
  have HN2 : Hid (NetAt W2 F g (⟨fs, N.time, N.waiting, N.queues⟩ : Net) (.slice (some ⟨fb, foff, none⟩) fs.length 0) fblk qb vs qblk) := by rw [← hW2]; exact HN.out.keep (S := fun _ => False) (((Upd.refl _ W1).drewN _).drewN _) (fun _ _ h => h)
  have HS2 : Hid (W2.heap.size = w.heap.size + 2) := by rw [← hW2]; exact HS1.out
  have kp0' : W2.cell? ⟨w.heap.size, 0, none⟩ = some (.int .i64 a) := by rw [← hW2]; exact kp0
  have kp1' : W2.cell? ⟨w.heap.size, 1, none⟩ = some (.int .i64 h) := by rw [← hW2]; exact kp1
  have kp2' : W2.cell? ⟨w.heap.size, 2, none⟩ = some (.string s) := by rw [← hW2]; exact kp2
  clear kp0 kp1 kp2 kd k1 k3 kq HU1 HN HS1
  have HW2 := Lib.hid hW2; clear hW2
  have HQ2 : Hid (RowAt W2 66 4 (.slice qA q.length qcap) q.length (flatL q) (qblk h)) := by rw [← HQ.out, ← HQV.out]; exact HN2.out.queue h hh
  have hqm : q ∈ N.queues := by
    rw [← HQ.out]
    simp [hh]
  have hsq : Hid (sorted q) := Hok.out.srt q hqm
  have hql : q.length ≤ 4000 := Nat.le_trans (len_le_total hqm) (by have := Hok.out.wait; have := Hok.out.low; omega)
  clear hqm
  unfold maxLen at hqx
  go_upto_block 0 with (fail)
  go_cut [9] (fun v9 wx => W2 = wx ∧ ∃ k : Nat, k ≤ q.length ∧ v9 = .int .i64 k ∧ Hid (q.takeWhile (fun f => decide (f.due ≤ (N.time : Int) + d)) = q.take k ∧ q.dropWhile (fun f => decide (f.due ≤ (N.time : Int) + d)) = q.drop k))
  case first =>
    go_wp2
    go_loop [9] (fun v => ∃ k : Nat, k ≤ q.length ∧ v = .int .i64 k ∧ Hid (∀ j x, k ≤ j → q[j]? = some x → (N.time : Int) + d < x.due)) (fun v => (intOf v).toNat)
    case atStart => exact ⟨q.length, Nat.le_refl _, rfl, fun j x hj hx => by have := (List.getElem?_eq_some_iff.1 hx).1; omega⟩
    case round =>
      obtain ⟨k, hk, rfl, hgt⟩ := hrel
      by_cases hk0 : k = 0
      · subst hk0
        go_wp2
        go_meet
        exact ⟨rfl, 0, Nat.zero_le _, rfl, sorted_take_le hsq.out (Nat.zero_le _) (fun h => by omega) hgt.out⟩
      · obtain ⟨k, rfl⟩ : ∃ j, k = j + 1 := ⟨k - 1, by omega⟩
        clear hk0
        obtain ⟨qg, qoff, qcap', hblk, hv, _, _, hqgl, hcell, _⟩ := HQ2.out.form (by omega)
        injection hv with hA _ hc
        subst hA hc
        obtain ⟨x, hx⟩ : ∃ x, q[k]? = some x := ⟨q[k], List.getElem?_eq_getElem (by omega)⟩
        have kc : W2.cell? ⟨qg, qoff + k * 4 + 3, none⟩ = some (.int .i64 x.due) := by rw [Nat.add_assoc, hcell _ (by omega)]; exact get_flat _ 4 (fun _ => rfl) q k 3 x hx (by omega)
        have HC := Lib.hid hcell; clear hcell
        have HX := Lib.hid hx; clear hx
        have HB := Lib.hid hblk; clear hblk
        go_wp2
        · go_round
          case rel => exact ⟨k, by omega, rfl, fun j y hj hy => by
            by_cases hjk : j = k
            · subst hjk
              have := HX.out.symm.trans hy
              injection this with this
              subst this
              assumption
            · exact hgt.out j y (by omega) hy⟩
          case measure => simp [intOf]
        · go_meet
          exact ⟨rfl, k + 1, hk, by go_num, sorted_take_le hsq.out hk (fun _ y hy => by
            have := HX.out.symm.trans hy
            injection this with this
            subst this
            assumption) hgt.out⟩
  case rest =>
    obtain ⟨rfl, k, hk, rfl, HT⟩ := hcut
    obtain ⟨x, Hx⟩ : ∃ x : Flight, Hid (x = ⟨⟨a, h, s⟩, (N.time : Int) + d⟩) := ⟨_, rfl⟩
    have hgq : ¬ F w.heap.size := fun hc => by have := H.out.lt _ hc; omega
    go_wp2
    go_loopw [8, 105] (fun v i wr => ∃ (m : Nat) (blk : Option Nat) (A8 : Option Addr) (c8 : Nat), m ≤ cn ∧ i = .int .i64 m ∧ v = .slice A8 (q.length + m) c8 ∧ Hid (RowAt wr 66 4 (.slice A8 (q.length + m) c8) (q.length + m) (flatL (q.take k ++ List.replicate m x ++ q.drop k)) blk) ∧ Hid (blk = qblk h ∨ ∃ g, blk = some g ∧ W2.heap.size ≤ g) ∧ Upd (fun k => qblk h = some k) W2 wr) (fun _ i _ => cn - (intOf i).toNat)
    case atStart => exact ⟨0, qblk h, qA, qcap, by omega, rfl, rfl, by show RowAt _ _ _ _ _ _ _; simpa using HQ2.out, .inl rfl, Upd.refl _ _⟩
    case round =>
      obtain ⟨m, blk, A8, c8, hm, rfl, rfl, HR, HB, HU⟩ := hrel
      have hgx : ∀ j, wr.cell? ⟨w.heap.size, j, none⟩ = W2.cell? ⟨w.heap.size, j, none⟩ := fun j => World.cell?_of_block (w := W2) (a := ⟨w.heap.size, j, none⟩) (HU.block _ (by show w.heap.size < W2.heap.size; rw [HS2.out]; omega) (fun hc => hgq (H.out.inL h _ hh hc)))
      have p0 : wr.cell? ⟨w.heap.size, 0, none⟩ = some (.int .i64 a) := (hgx 0).trans kp0'
      have p1 : wr.cell? ⟨w.heap.size, 1, none⟩ = some (.int .i64 h) := (hgx 1).trans kp1'
      have p2 : wr.cell? ⟨w.heap.size, 2, none⟩ = some (.string s) := (hgx 2).trans kp2'
      clear hgx
      by_cases hlt : m < cn
      · have hcall := insert_any (.slice A8 (q.length + m) c8) (q.length + m) k wr.heap.size (flatL (q.take k ++ List.replicate m x ++ q.drop k)) [.int .i64 a, .int .i64 h, .string s, .int .i64 ((N.time : Int) + d)] blk (wr.alloc (.cells #[.int .i64 a, .int .i64 h, .string s, .int .i64 ((N.time : Int) + d)] 66))
          (HR.out.keep (S := fun _ => False) ((Upd.refl _ wr).alloc _) (fun _ _ h => h)) (one_flatL _) (by simp [Value.oneCell']) rfl (heap_alloc_new wr _) (fun e => by have := HR.out.lt e; omega) (by omega) (by omega)
        have HCALL := Lib.hid hcall; clear hcall
        go_wp2_with (go_at_call 31; refine HCALL.out.mono ?_; rintro e w' ⟨v', blk', rfl, hrow', hu', hb'⟩; obtain ⟨A', c', rfl, _, _⟩ := hrow'.val; have HRW := Lib.hid hrow'; clear hrow'; have HBW := Lib.hid hb'; clear hb')
        go_roundw
        case rel => exact ⟨m + 1, blk', A', c', by omega, by go_num, rfl, by
            have h1 := HRW.out
            rw [← flat_ins q x k m hk, Hx.out]
            rw [Hx.out] at h1
            exact h1, by
            have hs : W2.heap.size ≤ wr.heap.size := HU.size
            rcases HBW.out with e | ⟨g', e, hg'⟩
            · rcases HB.out with e2 | ⟨g2, e2, hg2⟩
              · exact .inl (e.trans e2)
              · exact .inr ⟨g2, e.trans e2, hg2⟩
            · exact .inr ⟨g', e, by simp at hg'; omega⟩, by
            refine (HU.alloc _).trans hu' (fun i hi hi2 => ?_)
            rcases HB.out with e2 | ⟨g2, e2, hg2⟩
            · rw [← e2]; exact hi2
            · rw [e2] at hi2
              injection hi2 with hi2
              omega⟩
        case measure => simp [intOf]; omega
      · obtain rfl : cn = m := by omega
        have hd : wr.heap[g]? = _ := HU.keep HN2.out.head (fun hc => (HN2.out.queue h hh).ne_type HN2.out.head (by decide) hc)
        have hq : wr.heap[qb]? = _ := HU.keep HN2.out.row (fun hc => (HN2.out.queue h hh).ne_type HN2.out.row (by decide) hc)
        have hvl : h < vs.length := by rw [HN2.out.len]; exact hh
        have hgqn := HN2.out.gq
        have r3 : wr.cell? ⟨g, 3, none⟩ = some (.slice (some ⟨qb, 0, none⟩) N.queues.length N.queues.length) := by simp [World.cell?, hd]
        have rq : wr.cell? ⟨qb, h, none⟩ = some (vs.getD h undef) := by simp [World.cell?, hq, hvl]
        have fq : wr.frozen? ⟨qb, h, none⟩ = false := by simp [World.frozen?, hq]
        have r2 : (wr.setCell ⟨qb, h, none⟩ (.slice A8 (q.length + cn) c8)).cell? ⟨g, 2, none⟩ = some (.int .i64 N.waiting) := by
          rw [World.cell?_setCell_other _ _ _ _ (fun e => hgqn (by first | exact congrArg Addr.block e | exact (congrArg Addr.block e).symm))]
          simp [World.cell?, hd]
        have f2 : (wr.setCell ⟨qb, h, none⟩ (.slice A8 (q.length + cn) c8)).frozen? ⟨g, 2, none⟩ = false := by
          rw [World.frozen?_of_block (w := wr) (a := ⟨g, 2, none⟩) (Below.heap_setCell _ _ _ _ hgqn)]
          simp [World.frozen?, hd]
        have HD := Lib.hid hd; clear hd
        have HQQ := Lib.hid hq; clear hq
        go_wp2
        go_region
        go_wp2
        go_ret
        have hfin := NetAt.storeQueue HN2.out h hh (q.take k ++ List.replicate cn x ++ q.drop k) (.slice A8 (q.length + cn) c8) blk (N.waiting + cn) (by simp only [List.length_append, List.length_take, List.length_drop, List.length_replicate]; omega) HR.out HB.out HU
        have hN : (N.send ⟨a, h, s⟩).1 = ⟨(⟨fs, N.time, N.waiting, N.queues⟩ : Net).fates, (⟨fs, N.time, N.waiting, N.queues⟩ : Net).time, (⟨fs, N.time, N.waiting, N.queues⟩ : Net).waiting + cn, (⟨fs, N.time, N.waiting, N.queues⟩ : Net).queues.set h (q.take k ++ List.replicate cn x ++ q.drop k)⟩ := by
          have hsend := send_eq N ⟨a, h, s⟩ (by simp [okSend, ea, eb, eab]) ⟨false, cn, d⟩ (by rw [Hf.out]; rfl) cn (by simp [Fate.many]) hlow'
          rw [hsend]
          simp only [ins, Int.toNat_natCast, HQ.out]
          rw [HT.out.1, HT.out.2, Hx.out, Hf.out]
          rfl
        rw [hN]
        have hf2 := netpost_drew (netpost_of (v := .int .i64 0) HU2 hfin.1 (by simp [World.setCell]) hfin.2)
        simpa using hf2
end Go.Proofs.Ytfpiiehdmdmoeaa
