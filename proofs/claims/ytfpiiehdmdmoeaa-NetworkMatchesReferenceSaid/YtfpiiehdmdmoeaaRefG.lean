/-
  The reference's Send: a copy appended; the ways on which nothing is sent.
-/
import Derived.Test.YtfpiiehdmdmoeaaRefF
namespace Go.Proofs.Ytfpiiehdmdmoeaa
open Go.RowKit

structure Rf.Ok (r : Rf) : Prop where
  fates : ∀ f ∈ r.fates, f.ok = true
  low : r.copies.length ≤ 4000
  time : r.time ≤ 100000

theorem info70 : (Try.prog.info? 70).map (fun i => (i.zero, i.size, i.bytes)) = some (some (.agg #[.int .i64 0, .int .i64 0, .string ByteArray.empty, .int .i64 0]), 4, 40) := by kernel_rfl

theorem rsend_eq (r : Rf) (p : Pkt) (h : okSend r.houses p = true) (f : Fate) (hf : r.fates.headD one = f) (c : Nat) (hc : f.many = c) (hl : r.copies.length + c ≤ 4000) :
    (r.send p).1 = ⟨r.houses, r.fates.tail, r.time, r.copies ++ List.replicate c ⟨p, r.time + f.delay⟩⟩ := by
  subst hc hf
  unfold Rf.send
  rw [if_neg (by simp [h]), if_neg (by omega)]
theorem rsend_err (r : Rf) (p : Pkt) (h : okSend r.houses p = true) (f : Fate) (hf : r.fates.headD one = f) (c : Nat) (hc : f.many = c) : (r.send p).2 = if 4000 < r.copies.length + c then 3 else 0 := by
  subst hc hf
  unfold Rf.send
  rw [if_neg (by simp [h])]
  simp only
  split <;> rfl

theorem rappend {wr : World} {F : Nat → Prop} {g : Nat} {R : Rf} {fv : Value} {fblk : Option Nat} {cv : Value} {cblk : Option Nat} (hr : RefAt wr F g R fv fblk cv cblk) (x : Flight) (A : Option Addr) (c : Nat) (hcv : cv = .slice A R.copies.length c) (hlow : R.copies.length ≤ 4100) :
    ∃ A' c' w2, (Builtin.append_ #[60, 60] 60 #[.slice A R.copies.length c, .slice (some ⟨wr.heap.size, 0, none⟩) 1 1]).run Try.prog (wr.drew.alloc (.cells #[.int .i64 x.p.frm, .int .i64 x.p.dst, .string x.p.body, .int .i64 x.due] 70)) = .ok (.slice A' (R.copies.length + 1) c') w2 ∧
      RefRep (w2.setCell ⟨g, 3, none⟩ (.slice A' (R.copies.length + 1) c')) (fun k => F k ∨ (wr.heap.size ≤ k ∧ k < w2.heap.size)) g ⟨R.houses, R.fates, R.time, R.copies ++ [x]⟩ ∧
      Upd F wr (w2.setCell ⟨g, 3, none⟩ (.slice A' (R.copies.length + 1) c')) ∧ Upd (fun k => cblk = some k) wr w2 := by
  subst hcv
  have hu0 : Upd (fun _ => False) wr (wr.drew.alloc (.cells #[.int .i64 x.p.frm, .int .i64 x.p.dst, .string x.p.body, .int .i64 x.due] 70)) := ((Upd.refl _ wr).drew).alloc _
  obtain ⟨i1, hi1, hy0, hy1, hy2⟩ := info_parts info70
  obtain ⟨v2, w2, blk2, hrun, hrow2, hu2, hb2⟩ := run_append_row (P := Try.prog) (wr.drew.alloc (.cells #[.int .i64 x.p.frm, .int .i64 x.p.dst, .string x.p.body, .int .i64 x.due] 70)) 60 60 70 i1 _ 4 40 Try.underlying60 hi1 hy0 hy1 hy2 rfl (.slice A R.copies.length c) R.copies.length _ cblk (hr.copies.keep hu0 (fun _ _ h => h))
    (some ⟨wr.heap.size, 0, none⟩) 1 1 x.cells (src_new wr.drew x.cells 4 70 (by simp [Flight.cells, Value.oneCell']) rfl rfl) (by unfold maxLen; omega) (by omega)
  obtain ⟨A2, c2, rfl, _, _⟩ := hrow2.val
  have hu3 : Upd (fun k => cblk = some k) wr w2 := (hu0.mono (S' := fun k => cblk = some k) (fun _ _ h => h.elim)).trans hu2 (fun _ _ h => h)
  have hd := hu3.keep hr.head hr.nc
  have hu4 : Upd (fun k => k = g) w2 (w2.setCell ⟨g, 3, none⟩ (.slice A2 (R.copies.length + 1) c2)) := (Upd.refl (fun k => k = g) w2).setCell (.inl rfl) _
  have hg2 : blk2 ≠ some g := hrow2.ne_type hd (by decide)
  refine ⟨A2, c2, w2, hrun, ⟨fv, fblk, .slice A2 (R.copies.length + 1) c2, blk2, hr.setG (R' := ⟨R.houses, R.fates, R.time, R.copies ++ [x]⟩) ((heap_setCell_same hd _).trans (by simp)) ((hr.fates.keep hu3 (fun k hk => hr.nfc hk)).keep hu4 (fun k hk e => hr.nf (by rw [hk, e]))) ?_ (fun k hk => .inl hk) (fun k hk => ?_) (fun k hk => ?_)⟩, ?_, hu3⟩
  · have e : flatL (R.copies ++ [x]) = flatL R.copies ++ x.cells := by simp [flatL]
    rw [e]
    simp only [List.length_append, List.length_cons, List.length_nil, Nat.zero_add]
    exact hrow2.keep hu4 (fun k hk e => hg2 (by rw [hk, e]))
  · rcases hb2 with e | ⟨k', e, hk'⟩
    · exact .inl (hr.inC k (e ▸ hk))
    · rw [e] at hk
      injection hk with hk
      subst hk
      exact .inr ⟨Nat.le_trans hu0.size hk', hrow2.lt e⟩
  · have hz : (w2.setCell ⟨g, 3, none⟩ (.slice A2 (R.copies.length + 1) c2)).heap.size = w2.heap.size := by simp [World.setCell]
    rw [hz]
    rcases hk with hk | hk
    · exact Nat.lt_of_lt_of_le (hr.lt k hk) hu3.size
    · exact hk.2
  · exact (hu3.mono (S' := F) (fun i _ h => hr.inC i h)).trans hu4 (fun i _ h => by rw [h]; exact hr.inG)

set_option maxRecDepth 100000 in
set_option maxHeartbeats 400000 in
theorem rsend_nil (a b : Int) (s : ByteArray) (w : World) : Calls Try.prog 15 #[.pointer none, .agg #[.int .i64 a, .int .i64 b, .string s]] w (RetB (.int .i64 1) w) := by
  go_enter Try.func15, Try.ntmps15
  go_wp2_with (go_at_call 32; refine (rhouse_nil _ _).mono ?_; rintro e w' ⟨rfl, rfl⟩)
  go_ret
  exact ⟨rfl, (Below.refl _ _).alloc (Nat.le_refl _) _⟩

set_option maxRecDepth 100000 in
set_option maxHeartbeats 400000 in
theorem rsend_bad {w : World} {F : Nat → Prop} {g : Nat} {R : Rf} (hr : RefRep w F g R) (p : Pkt) (hb : okSend R.houses p = false) :
    Calls Try.prog 15 #[.pointer (some ⟨g, 0, none⟩), .agg #[.int .i64 p.frm, .int .i64 p.dst, .string p.body]] w (RefPost (.int .i64 1) F g R w) := by
  obtain ⟨a, b, s⟩ := p
  have hr1 : RefRep (w.alloc (.cells #[.int .i64 a, .int .i64 b, .string s] 31)) F g R := hr.keep (S := fun _ => False) ((Upd.refl _ w).alloc _) (fun _ _ h => h)
  have H := Lib.hid hr; clear hr
  have H1 := Lib.hid hr1; clear hr1
  simp only [okSend, Bool.and_eq_false_iff] at hb
  cases ea : okHouse R.houses a with
  | false =>
    clear hb
    go_enter Try.func15, Try.ntmps15
    go_wp2_with (go_at_call 32; refine (rhouse_any _ H1.out).mono ?_; rintro e w' ⟨rfl, rfl⟩)
    go_ret
    exact refpost_same H.out ((Below.refl _ _).alloc (Nat.le_refl _) _)
  | true =>
    cases eb : okHouse R.houses b with
    | false =>
      clear hb
      go_enter Try.func15, Try.ntmps15
      go_wp2_with (go_at_call 32; refine (rhouse_any _ H1.out).mono ?_; rintro e w' ⟨rfl, rfl⟩)
      go_ret
      exact refpost_same H.out ((Below.refl _ _).alloc (Nat.le_refl _) _)
    | true =>
      have hab : a = b := by simpa [ea, eb] using hb
      subst hab
      clear hb
      go_enter Try.func15, Try.ntmps15
      go_wp2_with (go_at_call 32; refine (rhouse_any _ H1.out).mono ?_; rintro e w' ⟨rfl, rfl⟩)
      go_ret
      exact refpost_same H.out ((Below.refl _ _).alloc (Nat.le_refl _) _)
end Go.Proofs.Ytfpiiehdmdmoeaa
