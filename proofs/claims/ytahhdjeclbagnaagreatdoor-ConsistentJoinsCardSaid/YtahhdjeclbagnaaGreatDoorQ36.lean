/-
  CtG; CtH; CtI
-/
import Derived.Test.YtahhdjeclbagnaaGreatDoorQ35
import Derived.TacticsInMore
import Derived.LoopNIn
import Derived.LoopIn
import Derived.OwnWalkIn
import Derived.Test.YtahhdjeclbagnaaGreatDoorQ17
namespace Go.Proofs.YtahhdjeclbagnaaGreatDoor
open Go.RowKit Go.Shelf
theorem backL_foldl (H : List (Nat × Int × Int)) (f : Nat → Int) : backL H f = H.reverse.foldl (fun f c => setAt f c.1 c.2.1) f := by
 rw [List.foldl_reverse]
 induction H with
 | nil => rfl
 | cons c H ih => show setAt (backL H f) c.1 c.2.1 = _; rw [ih]; rfl
theorem backH_foldl (H : List (Nat × Int × Int)) (f : Nat → Int) : backH H f = H.reverse.foldl (fun f c => setAt f c.1 c.2.2) f := by
 rw [List.foldl_reverse]
 induction H with
 | nil => rfl
 | cons c H ih => show setAt (backH H f) c.1 c.2.2 = _; rw [ih]; rfl
theorem SearchAt.caps {w : World} {X : SX} {lo hi : Nat → Int} {A : Option Addr} {oc : Nat} {H : List (Nat × Int × Int)} (h : SearchAt w X lo hi A oc H) : H.length ≤ oc ∧ oc ≤ maxLen := by
 rcases h.old.2 with ⟨h1, h2⟩ | ⟨g, cap, cur, h1, _, _, h3, h4, _⟩
 · simp only [Value.slice.injEq] at h1
   rw [h2, h1.2.2]
   exact ⟨Nat.le_refl _, Nat.zero_le _⟩
 · simp only [Value.slice.injEq] at h1
   rw [h1.2.2]
   exact ⟨h3, h4⟩
theorem SearchAt.old_at {w : World} {X : SX} {lo hi : Nat → Int} {A : Option Addr} {oc : Nat} {H H2 : List (Nat × Int × Int)} (h : SearchAt w X lo hi A oc (H ++ H2)) : At w 3 (if oc = H.length then A else A.map (·.add (H.length * 3))) H2.length (oc - H.length) (H2.flatMap chgC) := by
 have hfl : (H.flatMap chgC).length = H.length * 3 := length_flat chgC 3 (fun _ => rfl) H
 have hl : (H ++ H2).length = H.length + H2.length := List.length_append
 have hcap := h.caps
 rcases own_of_row h.old with ⟨h0, hA, hc⟩ | ⟨g, hA, _, ho⟩
 · have e1 : H = [] := List.eq_nil_of_length_eq_zero (by omega)
   have e2 : H2 = [] := List.eq_nil_of_length_eq_zero (by omega)
   subst e1 e2 hA hc
   exact at_nilX _ _
 · subst hA
   refine ⟨⟨length_flat chgC 3 (fun _ => rfl) H2, chgs_one _, fun hpos => ?_⟩, fun e => ?_, by omega, by have := hcap.2; omega⟩
   · rw [if_neg (by omega)]
     refine ⟨⟨g, H.length * 3, none⟩, by show some (Addr.add ⟨g, 0, none⟩ (H.length * 3)) = _; rw [Addr.add_lit, Nat.zero_add], fun j u hj => ?_⟩
     rw [Addr.add_lit]
     refine ho.cell ?_
     rw [List.flatMap_append, List.getElem?_append_right (by omega), hfl, Nat.add_sub_cancel_left]
     exact hj
   · split at e <;> simp at e
theorem RowsAt.turn {S : Nat → Prop} {w w' : World} {B rb k : Nat} {vs : List Value} {L : List (List Int)} (h : RowsAt w B rb vs L k) (ht : TurnS S w w') : RowsAt w' B rb vs L k :=
 ⟨h.own.turn ht, h.len, fun i v l hk hv hl => ownsRow_turn (h.row i v l hk hv hl) ht, h.sep, fun v hv b hb => ⟨(h.low v hv b hb).1, Nat.lt_of_lt_of_le (h.low v hv b hb).2.1 ht.size, (h.low v hv b hb).2.2⟩⟩
theorem SearchAt.turn {S : Nat → Prop} {w w' : World} {X : SX} {lo hi : Nat → Int} {A : Option Addr} {oc : Nat} {H : List (Nat × Int × Int)} (h : SearchAt w X lo hi A oc H) (ht : TurnS S w w') : SearchAt w' X lo hi A oc H :=
 ⟨h.bef.turn ht, h.aft.turn ht, h.lenB, h.lenA, h.box.turn ht, h.bnd.turn ht, ownsRow_turn h.old ht, h.low⟩
theorem old_take {w : World} {B oc : Nat} {A : Option Addr} {H H2 : List (Nat × Int × Int)} (h : w.ownsRow B 146 3 (.slice A (H ++ H2).length oc) (H ++ H2).length ((H ++ H2).flatMap chgC)) : w.ownsRow B 146 3 (.slice A H.length oc) H.length (H.flatMap chgC) := by
 have hfl : (H.flatMap chgC).length = H.length * 3 := length_flat chgC 3 (fun _ => rfl) H
 have hl : (H ++ H2).length = H.length + H2.length := List.length_append
 refine ⟨hfl, ?_⟩
 rcases h.2 with ⟨h1, h2⟩ | ⟨g, cap, cur, h1, h2, h3, h4, h5, h6, h7⟩
 · simp only [Value.slice.injEq] at h1
   have e : H.length = 0 := by omega
   exact .inl ⟨by rw [h1.1, h1.2.2, e], e⟩
 · simp only [Value.slice.injEq] at h1
   obtain ⟨rfl, _, rfl⟩ := h1
   refine .inr ⟨g, oc, cur, rfl, h2, h3, by omega, h5, h6, ?_⟩
   have h8 := congrArg (List.take (H.length * 3)) h7
   rw [List.take_take, Nat.min_eq_left (by omega), List.flatMap_append] at h8
   rw [h8, ← hfl, List.take_left]
theorem zeroC (w : World) : (zeroValue 146).run Tryz.prog w = .ok (.agg #[.int .i64 0, .int .i64 0, .int .i64 0]) w := by kernel_rfl
attribute [local go_sem] zeroC Oper.semAt_some
set_option maxRecDepth 100000 in
set_option maxHeartbeats 4000000 in
theorem undo_any (X : SX) (lo hi : Nat → Int) (A : Option Addr) (oc : Nat) (H H2 : List (Nat × Int × Int)) (w : World) (hS : SearchAt w X lo hi A oc (H ++ H2)) (hin : ∀ c ∈ H2, c.1 < X.n) :
 Calls Tryz.prog 54 #[.pointer (some ⟨X.sb, 0, none⟩), .int .i64 H.length] w (fun e w' => e = .returned (.tuple #[]) ∧ SearchAt w' X (backL H2 lo) (backH H2 hi) A oc H ∧ MvS X w w') := by
 have HS := Lib.hid hS; clear hS
 have HIN := Lib.hid hin; clear hin
 have hl : (H ++ H2).length = H.length + H2.length := List.length_append
 refine (callsIn_wide (n := 4)).1 ?_
 refine callsIn_of_wp_marks Tryz.func54 rfl trivial ?_ rfl
 simp only [Tryz.ntmps54, List.size_toArray, List.length_cons, List.length_nil, Nat.reduceAdd, Nat.reduceSub, Array.replicate_succ, Array.replicate_zero, List.push_toArray, List.append_toArray, List.nil_append, List.cons_append]
 gi_upto_region 1 with (fail)
 generalize hW0 : World.alloc _ _ = W0
 obtain ⟨HB, hh0⟩ := bx1 hW0
 have HBX : Hid (Own W0 74 w.heap.size [.pointer (some ⟨X.sb, 0, none⟩)]) := ⟨[], by rw [List.append_nil]; exact hh0⟩
 have HS0 := Lib.hid (HS.out.below HB.out)
 have b0 := HBX.out.cell (i := 0) rfl
 have s3 := HS0.out.box.cell (i := 3) rfl
 clear hW0 hh0
 have hcap := HS0.out.caps
 have h4 : oc ≤ 9223372036854775807 := by have := hcap.2; unfold maxLen at this; omega
 have h5 := hcap.1
 rw [hl] at h5 s3
 obtain ⟨A2, c2, hrun, hAt⟩ : ∃ (A2 : Option Addr) (c2 : Nat), (∀ w : World, (Instr.slice 108 (.slice A (H.length + H2.length) oc) (some (.int .i64 (H.length : Int))) none none).run Tryz.prog w = .ok (.slice A2 H2.length c2) w) ∧ ∀ (V : World) (lo hi : Nat → Int), SearchAt V X lo hi A oc (H ++ H2) → At V 3 A2 H2.length c2 (H2.flatMap chgC) := by
  refine ⟨if oc = H.length then A else A.map (·.add (H.length * 3)), oc - H.length, fun w => ?_, ?_⟩
  · rw [run_slice_l w 108 A (H.length + H2.length) oc (by kernel_rfl) .i64 H.length (by omega) (by omega)]
    have hs : (sizeOf (Tryz.prog.elem 108)).run Tryz.prog w = .ok 3 w := by kernel_rfl
    rw [hs]
    simp [sliced]
  · exact fun V lo hi h => h.old_at
 have hcc := Lib.hid hAt
 clear hAt
 gi_wp2_with (refine ⟨trivial, ?_⟩; gi_at_call 76; refine (callsIn_wide.2 (backwardC_any _ _ _ _)).mono ?_; rintro e z ⟨rfl, rfl⟩)
 generalize hW2 : World.alloc _ _ = W2
 obtain ⟨hb2, hh2⟩ := bx1' hW2
 have HC2 : Hid (Own W2 108 W0.heap.size [.slice A2 H2.length c2]) := ⟨[], by rw [List.append_nil]; exact hh2⟩
 have HBX2 := Lib.hid (HBX.out.below hb2)
 have HS2 := Lib.hid (HS0.out.below hb2)
 have HM2 : Hid (MvS X w W2) := (MvS.of_below HB.out).trans (MvS.of_below hb2)
 clear hW2 hb2 hh2 b0 s3
 have HSEQ : Hid (∀ (pre : List (Nat × Nat × Int × Int)) (V : World), SearchAt V X ((pre.map Prod.snd).foldl (fun f c => setAt f c.1 c.2.1) lo) ((pre.map Prod.snd).foldl (fun f c => setAt f c.1 c.2.2) hi) A oc (H ++ H2) ∧ MvS X W2 V → V.cell? ⟨W0.heap.size, 0, none⟩ = some (.slice A2 H2.length c2) ∧ At V 3 A2 H2.length c2 (H2.flatMap chgC)) :=
  fun pre V h => ⟨(HC2.out.mvS h.2 (by unfold TyS; decide)).cell rfl, hcc.out V _ _ h.1⟩
 refine wpIn_range_gen (α := Nat × (Nat × Int × Int)) rfl (by omega) (gf := 95) rfl trivial (enters_of Tryz.func95 (by kernel_rfl) rfl)
  (fun W1 _ _ => backwardC_iter (Bw := W0.heap.size) (A := A2) (c := c2) (P := H2) _ (by omega)
   (fun _ pre V => SearchAt V X ((pre.map Prod.snd).foldl (fun f c => setAt f c.1 c.2.1) lo) ((pre.map Prod.snd).foldl (fun f c => setAt f c.1 c.2.2) hi) A oc (H ++ H2) ∧ MvS X W2 V) W1
   (fun _ pre V h => HSEQ.out pre V h)) (fun _ _ => rfl)
  (fun _ _ _ => True) (fun _ _ _ _ h ht => ⟨h.1.turn ht, updTurn h.2 ht (fun k hk => by omega)⟩) (fun _ _ _ _ h _ => h) (fun _ _ _ _ _ h _ => h) (fun _ _ _ _ _ h _ => h) (fun _ _ _ _ _ _ _ h _ => h)
  (fun _ _ _ _ _ _ h => h.elim) (fun _ _ _ _ _ _ h => h.elim) (fun _ _ _ _ _ _ h => h.elim)
  (fun x => [.cells (chgC x.2).toArray 146]) (fun _ V hV _ => ⟨HS2.out.below hV, MvS.of_below hV⟩) ?a1 ?assign ?body (fun _ _ _ _ _ _ _ _ h => h.elim) ?done (fun _ _ _ _ _ _ h => h.elim)
 case assign =>
  intro l b x W k K hk hK
  simp only [chgC]
  gi_wp2
  try rw [hk]
  exact hK
 case body =>
  rintro l b0 pre ⟨i, a, l1, u1⟩ W k hb ⟨hSx, hMx⟩ ⟨hpm, hxi, hx⟩ hk hbx
  have hq := hbx 0 _ rfl
  rw [Nat.add_zero] at hq
  simp only at hx hq
  have ha := HIN.out _ (List.mem_of_getElem? hx)
  simp only at ha
  have q0 : W.cell? ⟨k, 0, none⟩ = some (.int .i64 a) := (cell_of_row W _ 0 _ _ _ hq).trans rfl
  have q1 : W.cell? ⟨k, 1, none⟩ = some (.int .i64 l1) := (cell_of_row W _ 1 _ _ _ hq).trans rfl
  have q2 : W.cell? ⟨k, 2, none⟩ = some (.int .i64 u1) := (cell_of_row W _ 2 _ _ _ hq).trans rfl
  have b1 : W.cell? ⟨w.heap.size, 0, none⟩ = some (.pointer (some ⟨X.sb, 0, none⟩)) := (HBX2.out.mvS hMx (by unfold TyS; decide)).cell rfl
  have s0 : W.cell? ⟨X.sb, 0, none⟩ = some (.slice (some ⟨X.bb, 0, none⟩) X.n X.n) := hSx.box.cell rfl
  have c0 := hSx.bnd.cell (bndC_get _ _ ha (j := 0) (by omega))
  have c1 := hSx.bnd.cell (bndC_get _ _ ha (j := 1) (by omega))
  rw [Nat.add_zero] at c0
  have f0 := hSx.bnd.frozen (a * 2)
  have f1 := hSx.bnd.frozen (a * 2 + 1)
  have an : (a : Int) < (X.n : Int) := by omega
  have HSX := Lib.hid hSx; clear hSx
  have HMX := Lib.hid hMx; clear hMx
  clear hx hq hbx hpm hxi
  dsimp only
  gi_upto_region 3 with (fail)
  refine wpIn_region_preN 8 (Lax.round _ _) (by simp) (by kernel_rfl) (by kernel_rfl) ?_
  simp only [List.take_succ_cons, List.take_zero, List.drop_succ_cons, List.drop_zero]
  repeat (go_big_quiet_step (fail))
  refine wpQuiet_nil ?_
  rintro _ ⟨mq, rfl⟩
  gi_wp2
  have hset := HSX.out.setBnd mq ha l1 u1
  have hu : Upd (fun q => q = X.bb) W (((W.drewN mq).setCell ⟨X.bb, a * 2, none⟩ (.int .i64 l1)).setCell ⟨X.bb, a * 2 + 1, none⟩ (.int .i64 u1)) :=
   (((Upd.refl (fun q => q = X.bb) W).drewN mq).setCell (p := ⟨X.bb, a * 2, none⟩) (.inl rfl) _).setCell (p := ⟨X.bb, a * 2 + 1, none⟩) (.inl rfl) _
  exact ⟨keepsFrom_upd _ hu (fun q o (e : q = X.bb) h => HSX.out.bnd.isCells (e ▸ h)), hset.1, HMX.out.trans hset.2⟩
 case done =>
  rintro D b0 xs W hD hb hS ⟨hS3, hM3⟩ hK
  rw [hS, ← backL_foldl, ← backH_foldl] at hS3
  have HSX := Lib.hid hS3; clear hS3
  have HMX := Lib.hid hM3; clear hM3
  have HK := Lib.hid hK; clear hK
  have b1 : W.cell? ⟨w.heap.size, 0, none⟩ = some (.pointer (some ⟨X.sb, 0, none⟩)) := (HBX2.out.mvS HMX.out (by unfold TyS; decide)).cell rfl
  have s3 : W.cell? ⟨X.sb, 3, none⟩ = some (.slice A (H.length + H2.length) oc) := by
   have h := HSX.out.box.cell (i := 3) rfl
   rw [hl] at h
   exact h
  have f3 := HSX.out.box.frozen 3
  have hrun2 : ∀ w : World, (Instr.slice 108 (.slice A (H.length + H2.length) oc) none (some (.int .i64 (H.length : Int))) none).run Tryz.prog w = .ok (.slice A H.length oc) w := fun w => by
   rw [run_slice_h w 108 A (H.length + H2.length) oc (by kernel_rfl) .i64 H.length (by omega) (by omega)]
   have hs : (sizeOf (Tryz.prog.elem 108)).run Tryz.prog w = .ok 3 w := by kernel_rfl
   rw [hs]
   simp only [sliced, Result.andThen_ok, Int.toNat_natCast, Nat.zero_mul, Nat.sub_zero]
   rcases own_of_row HS0.out.old with ⟨_, hA, _⟩ | ⟨g, hA, _⟩
   · subst hA; simp
   · subst hA
     have e : (Addr.add ⟨g, 0, none⟩ 0) = ⟨g, 0, none⟩ := by rw [Addr.add_lit]
     simp [e]
  clear hrun
  gi_upto_region 4 with (fail)
  refine wpIn_region_preN 7 (Lax.wide _) (by simp) (by kernel_rfl) (by kernel_rfl) ?_
  simp only [List.take_succ_cons, List.take_zero, List.drop_succ_cons, List.drop_zero]
  repeat (go_big_quiet_step (fail))
  refine wpQuiet_nil ?_
  rintro _ ⟨mq, rfl⟩
  gi_wp2
  have hsD : X.sb ≠ D := by have h1 := HS2.out.box.lt; omega
  have hu : Upd (fun q => q = X.sb) W ((W.drewN mq).setCell ⟨X.sb, 3, none⟩ (.slice A H.length oc)) := ((Upd.refl (fun q => q = X.sb) W).drewN mq).setCell (p := ⟨X.sb, 3, none⟩) (.inl rfl) _
  have hud : Upd (fun _ => False) W (W.drewN mq) := (Upd.refl _ _).drewN mq
  have hmv : MvS X W ((W.drewN mq).setCell ⟨X.sb, 3, none⟩ (.slice A H.length oc)) := MvS.of_upd hu (fun q hq _ => by subst hq; exact HSX.out.box.sset HSX.out.low.1 (.inl rfl) (.inl rfl))
  have hSF : SearchAt ((W.drewN mq).setCell ⟨X.sb, 3, none⟩ (.slice A H.length oc)) X (backL H2 lo) (backH H2 hi) A oc H :=
   ⟨HSX.out.bef.mvS hmv, HSX.out.aft.mvS hmv, HSX.out.lenB, HSX.out.lenA, (HSX.out.box.keep hud (fun h => h)).set (i := 3) (by simp) _, HSX.out.bnd.keep hu (fun e => HSX.out.bnd.ne HSX.out.box (by decide) e), ownsRow_upd (old_take HSX.out.old) hu (fun b hb e => by
    subst e
    obtain ⟨tl, hbox⟩ := HSX.out.box
    exact ownBlock_ne (old_take HSX.out.old) hbox (by decide) hb), HSX.out.low⟩
  have hK2 := hu.keep HK.out (fun e => hsD e.symm)
  refine ⟨by simp, .inl ⟨_, _, rfl, run_takeDeferred hK2, ?_⟩⟩
  have ht := TurnS.putObj (S := fun k => k = D) (.deferred none) rfl hK2 rfl
  refine ⟨_, results_none rfl _ _ _, rfl, hSF.turn ht, ?_⟩
  exact updTurn (HM2.out.trans (HMX.out.trans hmv)) ht (fun q hq => by have h1 := HM2.out.size; omega)
end Go.Proofs.YtahhdjeclbagnaaGreatDoor
namespace Go.Proofs.YtahhdjeclbagnaaGreatDoor
open Go.RowKit Go.Shelf
theorem YieldAt.depth {F : Fence} {m m' : Nat} {P : Program} {l : Nat} {args : Array Value} {W : World} {R : Ending → World → Prop} (hF : F.depth = none) (h : YieldAt F m P l args W R) : YieldAt F m' P l args W R := by
 obtain ⟨fn, tmps, assign, body, h1, h2, h3⟩ := h
 exact ⟨fn, tmps, assign, body, h1, h2, fun c cs _ => h3 c cs (fun d hd => by rw [hF] at hd; cases hd)⟩
def MvB (X : SX) (b : Nat × Nat) (V V' : World) : Prop := Upd (fun k => (b.1 ≤ k ∧ k < b.2) ∨ SSet X V k) V V'
theorem MvB.refl (X : SX) (b : Nat × Nat) (V : World) : MvB X b V V := Upd.refl _ _
theorem MvB.trans {X : SX} {b : Nat × Nat} {x y z : World} (h : MvB X b x y) (k : MvB X b y z) : MvB X b x z := by
 refine Upd.trans h k (fun i hi hs => ?_)
 by_cases hz : (b.1 ≤ i ∧ i < b.2) ∨ SSet X x i
 · exact hz
 · rcases hs with hs | ⟨h1, cs, t, fz, h2, h3⟩
   · exact .inl hs
   · rw [h.block i hi hz] at h2
     exact .inr ⟨h1, cs, t, fz, h2, h3⟩
theorem MvB.of_mvS {X : SX} {b : Nat × Nat} {V V' : World} (h : MvS X V V') : MvB X b V V' := h.mono (fun _ _ h => .inr h)
theorem MvB.of_below {X : SX} {b : Nat × Nat} {V V' : World} (h : Below V.heap.size V V') : MvB X b V V' := MvB.of_mvS (MvS.of_below h)
def StX (X : SX) (Bs k : Nat) : Prop := k = X.rb ∨ k = X.ab ∨ k = Bs ∨ ∃ v, (v ∈ X.vb ∨ v ∈ X.va) ∧ v.ownBlock = some k
def KpB (X : SX) (Bs : Nat) (b : Nat × Nat) (V V' : World) : Prop := V.heap.size ≤ V'.heap.size ∧ ∀ (k : Nat) (cs : Array Value) (t : TypeId) (fz : Nat × Nat), V.heap[k]? = some (.cells cs t fz) → (StX X Bs k ∨ (b.1 ≤ k ∧ k < b.2) ∨ TyS t) → V'.heap[k]? = some (.cells cs t fz)
theorem Own.kp {X : SX} {Bs : Nat} {b' : Nat × Nat} {w w' : World} {t : TypeId} {b : Nat} {cs : List Value} (h : Own w t b cs) (hk : KpB X Bs b' w w') (hs : StX X Bs b ∨ (b'.1 ≤ b ∧ b < b'.2) ∨ TyS t) : Own w' t b cs := by
 obtain ⟨tl, h⟩ := h
 exact ⟨tl, hk.2 _ _ _ _ h hs⟩
theorem RowsAt.typed {w : World} {B rb : Nat} {vs : List Value} {L : List (List Int)} (h : RowsAt w B rb vs L 0) : ∀ v ∈ vs, ∀ b, v.ownBlock = some b → ∃ cs fz, w.heap[b]? = some (.cells cs 3 fz) := fun v hv b hb => by
 obtain ⟨i, hi⟩ := List.mem_iff_getElem?.1 hv
 have hl : i < L.length := by rw [← h.len]; exact (List.getElem?_eq_some_iff.1 hi).1
 exact ownsRow_typed (h.row i v _ (Nat.zero_le _) hi (List.getElem?_eq_getElem hl)) b hb
theorem Own.same {w w' : World} {t : TypeId} {b : Nat} {cs : List Value} (h : Own w t b cs) (e : w'.heap[b]? = w.heap[b]?) : Own w' t b cs := by
 obtain ⟨tl, h⟩ := h
 exact ⟨tl, e.trans h⟩
theorem ownsRow_same {w w' : World} {B : Nat} {e : TypeId} {size n : Nat} {v : Value} {xs : List Value} (h : w.ownsRow B e size v n xs) (hs : ∀ k, v.ownBlock = some k → w'.heap[k]? = w.heap[k]?) : w'.ownsRow B e size v n xs := by
 refine ⟨h.1, ?_⟩
 rcases h.2 with h0 | ⟨g, cap, cur, rfl, hB, hg, r⟩
 · exact .inl h0
 · exact .inr ⟨g, cap, cur, rfl, hB, (hs g rfl).trans hg, r⟩
theorem RowsAt.same {w w' : World} {B rb k : Nat} {vs : List Value} {L : List (List Int)} (h : RowsAt w B rb vs L k) (hz : w.heap.size ≤ w'.heap.size) (hr : w'.heap[rb]? = w.heap[rb]?) (hs : ∀ v ∈ vs, ∀ b, v.ownBlock = some b → w'.heap[b]? = w.heap[b]?) : RowsAt w' B rb vs L k :=
 ⟨h.own.same hr, h.len, fun i v l hk hv hl => ownsRow_same (h.row i v l hk hv hl) (hs v (List.mem_of_getElem? hv)), h.sep, fun v hv b hb => ⟨(h.low v hv b hb).1, Nat.lt_of_lt_of_le (h.low v hv b hb).2.1 hz, (h.low v hv b hb).2.2⟩⟩
theorem SearchAt.kp {V V' : World} {X : SX} {Bs : Nat} {b : Nat × Nat} {lo hi : Nat → Int} {A : Option Addr} {oc : Nat} {H : List (Nat × Int × Int)} (h : SearchAt V X lo hi A oc H) (hk : KpB X Bs b V V') : SearchAt V' X lo hi A oc H := by
 have rw' : ∀ {w : World} {B rb : Nat} {vs : List Value} {L : List (List Int)}, RowsAt V B rb vs L 0 → (∀ v ∈ vs, v ∈ X.vb ∨ v ∈ X.va) → (rb = X.rb ∨ rb = X.ab) → RowsAt V' B rb vs L 0 := fun h1 h2 h3 => by
  obtain ⟨tl, ho⟩ := h1.own
  refine h1.same hk.1 ((hk.2 _ _ _ _ ho (.inl ?_)).trans ho.symm) (fun v hv q hq => ?_)
  · rcases h3 with e | e
    · exact .inl e
    · exact .inr (.inl e)
  · obtain ⟨cs, fz, h4⟩ := h1.typed v hv q hq
    exact (hk.2 _ _ _ _ h4 (.inl (.inr (.inr (.inr ⟨v, h2 v hv, hq⟩))))).trans h4.symm
 refine ⟨rw' (w := V) h.bef (fun v hv => .inl hv) (.inl rfl), rw' (w := V) h.aft (fun v hv => .inr hv) (.inr rfl),
  h.lenB, h.lenA, h.box.kp hk (.inr (.inr (.inl rfl))), h.bnd.kp hk (.inr (.inr (.inr (.inl rfl)))), ownsRow_same h.old (fun q hq => ?_), h.low⟩
 obtain ⟨cs, fz, h1⟩ := ownsRow_typed h.old q hq
 exact (hk.2 _ _ _ _ h1 (.inr (.inr (.inr (.inr rfl))))).trans h1.symm
structure IX where
 nb : Nat
 yb : Nat
 xb : Nat
 vb : Nat
structure ItAt (V : World) (X : SX) (Bs : Nat) (b : Nat × Nat) (l : Nat) (I : IX) : Prop where
 win : ∀ k, (k = I.nb ∨ k = I.yb ∨ k = I.xb ∨ k = I.vb) → b.1 ≤ k ∧ k < b.2
 ybox : Own V 116 I.yb [.func (.yield l) #[] #[]]
 nbox : Own V 22 I.xb [.slice (some ⟨I.nb, 0, none⟩) X.n X.n]
 vbox : Own V 117 I.vb [.func (.func 52) #[] #[.pointer (some ⟨I.xb, 0, none⟩), .pointer (some ⟨Bs, 0, none⟩), .pointer (some ⟨I.yb, 0, none⟩), .pointer (some ⟨I.vb, 0, none⟩)]]
 sbox : Own V 74 Bs [.pointer (some ⟨X.sb, 0, none⟩)]
 num : ∃ N : List Int, N.length = X.n ∧ Own V 3 I.nb (ints N)
 sep : ∀ v, v ∈ X.vb ∨ v ∈ X.va → ∀ q, v.ownBlock = some q → q < b.1
 sz : b.2 ≤ V.heap.size
theorem ItAt.below {V V' : World} {X : SX} {Bs l : Nat} {b : Nat × Nat} {I : IX} (h : ItAt V X Bs b l I) (hb : Below V.heap.size V V') : ItAt V' X Bs b l I := by
 obtain ⟨N, h1, h2⟩ := h.num
 exact ⟨h.win, h.ybox.below hb, h.nbox.below hb, h.vbox.below hb, h.sbox.below hb, ⟨N, h1, h2.below hb⟩, h.sep, Nat.le_trans h.sz hb.size⟩
theorem ItAt.mvS {V V' : World} {X : SX} {Bs l : Nat} {b : Nat × Nat} {I : IX} (h : ItAt V X Bs b l I) (hm : MvS X V V') : ItAt V' X Bs b l I := by
 obtain ⟨N, h1, h2⟩ := h.num
 have nt : ∀ {t : TypeId}, t ≠ 110 → t ≠ 112 → t ≠ 146 → ¬ TyS t := fun a b c h => by
  rcases h with h | h | h
  · exact a h
  · exact b h
  · exact c h
 exact ⟨h.win, h.ybox.mvS hm (nt (by decide) (by decide) (by decide)), h.nbox.mvS hm (nt (by decide) (by decide) (by decide)), h.vbox.mvS hm (nt (by decide) (by decide) (by decide)), h.sbox.mvS hm (nt (by decide) (by decide) (by decide)), ⟨N, h1, h2.mvS hm (nt (by decide) (by decide) (by decide))⟩, h.sep, Nat.le_trans h.sz hm.size⟩
theorem ItAt.kp {V V' : World} {X : SX} {Bs l : Nat} {b : Nat × Nat} {I : IX} (h : ItAt V X Bs b l I) (hk : KpB X Bs b V V') : ItAt V' X Bs b l I := by
 obtain ⟨N, h1, h2⟩ := h.num
 exact ⟨h.win, h.ybox.kp hk (.inr (.inl (h.win _ (.inr (.inl rfl))))), h.nbox.kp hk (.inr (.inl (h.win _ (.inr (.inr (.inl rfl)))))), h.vbox.kp hk (.inr (.inl (h.win _ (.inr (.inr (.inr rfl)))))), h.sbox.kp hk (.inl (.inr (.inr (.inl rfl)))), ⟨N, h1, h2.kp hk (.inr (.inl (h.win _ (.inl rfl))))⟩, h.sep, Nat.le_trans h.sz hk.1⟩
end Go.Proofs.YtahhdjeclbagnaaGreatDoor
namespace Go.Proofs.YtahhdjeclbagnaaGreatDoor
open Go.RowKit Go.Shelf
attribute [local go_sem] Oper.semAt_some
def YOk (n : Nat) (b : Nat × Nat) (nb : Nat) (pre : List (List Int)) (x : List Int) (V : World) : Prop := pre.length < 400 ∧ x.length = n ∧ Own V 3 nb (ints x) ∧ b.2 ≤ V.heap.size
def YOkL (n : Nat) (b : Nat × Nat) (nb : Nat) (pre : List (List Int)) (x : List Int) (V : World) : Prop := pre.length = 400 ∧ x.length = n ∧ Own V 3 nb (ints x) ∧ b.2 ≤ V.heap.size
structure YieldsC (X : SX) (Bs : Nat) (b : Nat × Nat) (l nb : Nat) (J JL : List (List Int) → World → Prop) : Prop where
 go : ∀ pre x V, J pre V → YOk X.n b nb pre x V → YieldAt Fence.wide 0 Tryz.prog l #[.slice (some ⟨nb, 0, none⟩) X.n X.n] V fun e V' => e = .returned (.bool true) ∧ J (pre ++ [x]) V' ∧ KpB X Bs b V V'
 stop : ∀ pre x V, J pre V → YOkL X.n b nb pre x V → YieldAt Fence.wide 0 Tryz.prog l #[.slice (some ⟨nb, 0, none⟩) X.n X.n] V fun e V' => e = .returned (.bool false) ∧ JL (pre ++ [x]) V' ∧ KpB X Bs b V V'
 mv : ∀ pre V V', J pre V → MvB X b V V' → J pre V'
 mvL : ∀ pre V V', JL pre V → MvB X b V V' → JL pre V'
def BKept (X : SX) (V V' : World) : Prop := ∀ (k : Nat) (cs : Array Value) (fz : Nat × Nat), V.heap[k]? = some (.cells cs 112 fz) → k ≠ X.bb → k ≠ X.sb → V'.heap[k]? = some (.cells cs 112 fz)
theorem BKept.refl (X : SX) (V : World) : BKept X V V := fun _ _ _ h _ _ => h
theorem BKept.trans {X : SX} {a b c : World} (h : BKept X a b) (k : BKept X b c) : BKept X a c := fun i cs fz h1 h2 h3 => k i cs fz (h i cs fz h1 h2 h3) h2 h3
theorem BKept.mvS {X : SX} {V V' : World} (h : MvS X V V') : BKept X V V' := fun i cs fz h1 h2 h3 => h.keep h1 (fun ⟨_, cs', t', fz', h4, _, h5⟩ => by
 rw [h1] at h4
 cases h4
 rcases h5 with h5 | h5 | h5
 · exact h3 h5
 · exact h2 h5
 · revert h5; decide)
theorem BKept.below {X : SX} {V V' : World} (h : Below V.heap.size V V') : BKept X V V' := BKept.mvS (MvS.of_below h)
theorem BKept.kp {X : SX} {Bs : Nat} {b : Nat × Nat} {V V' : World} (h : KpB X Bs b V V') : BKept X V V' := fun i cs fz h1 _ _ => h.2 i cs _ fz h1 (.inr (.inr (.inr (.inl rfl))))
theorem BKept.int {X : SX} {S : Nat → Prop} {V V' : World} (h : Upd S V V') (hS : ∀ k, S k → ∃ cs fz, V.heap[k]? = some (.cells cs 3 fz)) : BKept X V V' := fun i cs fz h1 _ _ => h.keep h1 (fun hs => by
 obtain ⟨cs', fz', h2⟩ := hS i hs
 rw [h1] at h2
 injection h2 with h2
 injection h2 with _ h2 _
 revert h2
 decide)
def VisitPost (X : SX) (P : List (Nat × Nat)) (Bs : Nat) (b : Nat × Nat) (l : Nat) (I : IX) (lo hi : Nat → Int) (H : List (Nat × Int × Int)) (J JL : List (List Int) → World → Prop) (pre : List (List Int)) (V : World) (e : Ending) (V' : World) : Prop :=
 ∃ (more : Bool) (Y : List (List Int)) (A : Option Addr) (oc : Nat), e = .returned (.bool more) ∧ IsEnum X.n lo hi P Y ∧ V.heap.size ≤ V'.heap.size ∧ BKept X V V' ∧ ItAt V' X Bs b l I ∧ SearchAt V' X lo hi A oc H ∧
  (more = true → (pre ++ Y).length ≤ 400 ∧ J (pre ++ Y) V') ∧ (more = false → 400 < (pre ++ Y).length ∧ ∃ Y1, JL (pre ++ Y1) V')
structure VAt (V : World) (X : SX) (Bs : Nat) (b : Nat × Nat) (l : Nat) (I : IX) (lo hi : Nat → Int) (A : Option Addr) (oc : Nat) (H : List (Nat × Int × Int)) (J : List (List Int) → World → Prop) (pre : List (List Int)) : Prop where
 s : SearchAt V X lo hi A oc H
 it : ItAt V X Bs b l I
 j : J pre V
theorem VAt.below {V V' : World} {X : SX} {Bs l nb : Nat} {b : Nat × Nat} {I : IX} {lo hi : Nat → Int} {A : Option Addr} {oc : Nat} {H : List (Nat × Int × Int)} {J JL : List (List Int) → World → Prop} {pre : List (List Int)} (h : VAt V X Bs b l I lo hi A oc H J pre) (hY : YieldsC X Bs b l nb J JL) (hb : Below V.heap.size V V') : VAt V' X Bs b l I lo hi A oc H J pre :=
 ⟨h.s.below hb, h.it.below hb, hY.mv _ _ _ h.j (MvB.of_below hb)⟩
def NumTo (lo : Nat → Int) (n j : Nat) (N : List Int) : Prop := N.length = n ∧ ∀ i, i < j → N.getD i 0 = lo i
theorem NumTo.step {lo : Nat → Int} {n j : Nat} {N : List Int} (h : NumTo lo n j N) (hj : j < n) : NumTo lo n (j + 1) (N.set j (lo j)) := by
 refine ⟨by rw [List.length_set]; exact h.1, fun i hi => ?_⟩
 rw [List.getD_eq_getElem?_getD, List.getElem?_set]
 by_cases e : j = i
 · subst e
   rw [if_pos rfl, if_pos (by rw [h.1]; exact hj)]
   rfl
 · rw [if_neg e, ← List.getD_eq_getElem?_getD]
   exact h.2 i (by omega)
theorem ints_set (N : List Int) (j : Nat) (v : Int) : (ints N).set j (.int .i64 v) = ints (N.set j v) := by simp [ints, List.map_set]
theorem VAt.num {V V' : World} {X : SX} {Bs l : Nat} {b : Nat × Nat} {I : IX} {lo hi : Nat → Int} {A : Option Addr} {oc : Nat} {H : List (Nat × Int × Int)} {J JL : List (List Int) → World → Prop} {pre : List (List Int)} (h : VAt V X Bs b l I lo hi A oc H J pre) (hY : YieldsC X Bs b l I.nb J JL) (hu : Upd (fun k => k = I.nb) V V') {N : List Int} (hN : N.length = X.n) (ho : Own V' 3 I.nb (ints N)) : VAt V' X Bs b l I lo hi A oc H J pre ∧ BKept X V V' := by
 obtain ⟨N0, hN0, ho0⟩ := h.it.num
 have hT : ∀ k, k = I.nb → ∃ cs fz, V.heap[k]? = some (.cells cs 3 fz) := fun k e => by
  obtain ⟨tl, ho0⟩ := ho0
  exact ⟨_, _, by rw [e]; exact ho0⟩
 have hne : ∀ {t : TypeId} {q : Nat} {cs : List Value}, Own V t q cs → t ≠ 3 → q ≠ I.nb := fun h1 h2 e => h1.ne ho0 h2 e
 refine ⟨⟨h.s.updInt hu hT (fun v hv q hq e => ?_), ⟨h.it.win, h.it.ybox.keep hu (hne h.it.ybox (by decide)), h.it.nbox.keep hu (hne h.it.nbox (by decide)), h.it.vbox.keep hu (hne h.it.vbox (by decide)), h.it.sbox.keep hu (hne h.it.sbox (by decide)), ⟨N, hN, ho⟩, h.it.sep, Nat.le_trans h.it.sz hu.size⟩, hY.mv _ _ _ h.j (hu.mono (fun k _ e => .inl (by rw [e]; exact h.it.win _ (.inl rfl))))⟩, BKept.int hu hT⟩
 have h1 := h.it.sep v hv q hq
 have h2 := h.it.win _ (.inl rfl)
 omega
theorem BKept.own {X : SX} {V V' : World} {k : Nat} {cs : List Value} (h : BKept X V V') (ho : Own V 112 k cs) (h1 : k ≠ X.bb) (h2 : k ≠ X.sb) : Own V' 112 k cs := by
 obtain ⟨tl, ho⟩ := ho
 exact ⟨tl, h k _ _ ho h1 h2⟩
set_option maxRecDepth 100000 in
set_option maxHeartbeats 4000000 in
theorem visit_any {X : SX} {P : List (Nat × Nat)} {Bs l : Nat} {b : Nat × Nat} {I : IX} {J JL : List (List Int) → World → Prop} (HYD : Hid (YieldsC X Bs b l I.nb J JL)) (HLB : Hid (X.Lb = befTo P X.n P.length)) (HLA : Hid (X.La = aftTo P X.n P.length)) (hn : X.n ≤ 400) (hP : P.length ≤ 4000) :
 ∀ (m fr : Nat), fr + m = X.n → ∀ (lo hi : Nat → Int) (A : Option Addr) (oc : Nat) (H : List (Nat × Int × Int)) (pre : List (List Int)) (V : World), SearchAt V X lo hi A oc H → Bnd X.n lo hi P → (∀ i, i < fr → lo i = hi i) → (∀ i, i < X.n → -1000000 ≤ lo i ∧ hi i ≤ 1000000) → ItAt V X Bs b l I → J pre V → pre.length ≤ 400 → H.length ≤ fr * (2 * X.n + 1) →
  Calls Tryz.prog 52 #[.int .i64 fr, .pointer (some ⟨I.xb, 0, none⟩), .pointer (some ⟨Bs, 0, none⟩), .pointer (some ⟨I.yb, 0, none⟩), .pointer (some ⟨I.vb, 0, none⟩)] V (VisitPost X P Bs b l I lo hi H J JL pre V) := by
 intro m
 induction m using Nat.strongRecOn with
 | _ m ih =>
  intro fr hfm lo hi A oc H pre V hS hB hone hrg hIt hJ hpl hHl
  have HIH := Lib.hid ih; clear ih
  have HV : Hid (VAt V X Bs b l I lo hi A oc H J pre) := ⟨hS, hIt, hJ⟩
  clear hS hIt hJ
  have HB := Lib.hid hB; clear hB
  have HO := Lib.hid hone; clear hone
  have HRG := Lib.hid hrg; clear hrg
  have HPL := Lib.hid hpl; clear hpl
  have HHL := Lib.hid hHl; clear hHl
  have HFM := Lib.hid hfm; clear hfm
  have hfr : fr ≤ X.n := by have := HFM.out; omega
  refine (callsIn_wide (n := 4)).1 ?_
  refine callsIn_of_wp Tryz.func52 rfl trivial ?_ rfl
  simp only [Tryz.ntmps52, List.size_toArray, List.length_cons, List.length_nil, Nat.reduceAdd, Nat.reduceSub, Array.replicate_succ, Array.replicate_zero, List.push_toArray, List.append_toArray, List.nil_append, List.cons_append]
  gi_wp2
  gi_loopw [0] (fun v wr => ∃ k : Nat, fr ≤ k ∧ k ≤ X.n ∧ v = .int .i64 k ∧ Hid (∀ i, i < k → lo i = hi i) ∧ Hid (V.heap.size ≤ wr.heap.size) ∧ Hid (BKept X V wr) ∧ Hid (VAt wr X Bs b l I lo hi A oc H J pre)) (fun v _ => X.n - (intOf v).toNat)
  case atStart => exact ⟨fr, Nat.le_refl _, hfr, rfl, HO, Nat.le_refl _, BKept.refl _ _, HV⟩
  case round =>
   obtain ⟨k, hfk, hkn, rfl, HOK, HSZ, HBK, HVC⟩ := hrel
   clear HV HO
   have c1 : wr.cell? ⟨I.xb, 0, none⟩ = some (.slice (some ⟨I.nb, 0, none⟩) X.n X.n) := HVC.out.it.nbox.cell rfl
   have c2 : wr.cell? ⟨Bs, 0, none⟩ = some (.pointer (some ⟨X.sb, 0, none⟩)) := HVC.out.it.sbox.cell rfl
   have s0 : wr.cell? ⟨X.sb, 0, none⟩ = some (.slice (some ⟨X.bb, 0, none⟩) X.n X.n) := HVC.out.s.box.cell rfl
   by_cases hlt : k < X.n
   · have d0 := HVC.out.s.bnd.cell (bndC_get lo hi hlt (j := 0) (by omega))
     have d1 := HVC.out.s.bnd.cell (bndC_get lo hi hlt (j := 1) (by omega))
     rw [Nat.add_zero] at d0
     have k1 : (k : Int) < (X.n : Int) := by omega
     gi_upto_region 1 with (fail)
     by_cases he : lo k = hi k
     · have q1 : (lo k == hi k) = true := by simp [he]
       have HE := Lib.hid he; clear he
       refine wpIn_region_preN 22 (Lax.wide _) (by simp) (by kernel_rfl) (by kernel_rfl) ?_
       simp only [List.take_succ_cons, List.take_zero, List.drop_succ_cons, List.drop_zero]
       repeat (go_big_quiet_step (fail))
       refine wpQuiet_nil ?_
       rintro _ ⟨mq, rfl⟩
       have hbm := below_drewN wr mq
       have HBK2 := Lib.hid (HBK.out.trans (BKept.below hbm))
       have HVC2 := Lib.hid (HVC.out.below HYD.out hbm)
       have HSZ2 : Hid (V.heap.size ≤ (wr.drewN mq).heap.size) := Nat.le_trans HSZ.out hbm.size
       have HOK2 : Hid (∀ i, i < k + 1 → lo i = hi i) := fun i hi' => by
        by_cases e : i = k
        · rw [e]; exact HE.out
        · exact HOK.out i (by omega)
       clear hbm c1 c2 s0 d0 d1 HBK HVC HSZ HOK HE
       gi_wp2
       go_roundw
       case rel => exact ⟨k + 1, by omega, by omega, by go_num, HOK2, HSZ2, HBK2, HVC2⟩
       case measure => simp [intOf]; omega
     · have q1 : (lo k == hi k) = false := by simp [he]
       clear he
       refine wpIn_region_preN 22 (Lax.wide _) (by simp) (by kernel_rfl) (by kernel_rfl) ?_
       simp only [List.take_succ_cons, List.take_zero, List.drop_succ_cons, List.drop_zero]
       repeat (go_big_quiet_step (fail))
       refine wpQuiet_nil ?_
       rintro _ ⟨mq, rfl⟩
       have hbm := below_drewN wr mq
       have HBK2 := Lib.hid (HBK.out.trans (BKept.below hbm))
       have HVC2 := Lib.hid (HVC.out.below HYD.out hbm)
       have HSZ2 : Hid (V.heap.size ≤ (wr.drewN mq).heap.size) := Nat.le_trans HSZ.out hbm.size
       have HRK := Lib.hid (HRG.out k hlt)
       clear hbm c1 c2 s0 d0 d1 HBK HVC HSZ
       generalize wr.drewN mq = W1 at HBK2 HVC2 HSZ2 ⊢
       have c1 : W1.cell? ⟨I.xb, 0, none⟩ = some (.slice (some ⟨I.nb, 0, none⟩) X.n X.n) := HVC2.out.it.nbox.cell rfl
       have c2 : W1.cell? ⟨Bs, 0, none⟩ = some (.pointer (some ⟨X.sb, 0, none⟩)) := HVC2.out.it.sbox.cell rfl
       have s0 : W1.cell? ⟨X.sb, 0, none⟩ = some (.slice (some ⟨X.bb, 0, none⟩) X.n X.n) := HVC2.out.s.box.cell rfl
       have d0 := HVC2.out.s.bnd.cell (bndC_get lo hi hlt (j := 0) (by omega))
       have d1 := HVC2.out.s.bnd.cell (bndC_get lo hi hlt (j := 1) (by omega))
       rw [Nat.add_zero] at d0
       have q2 : ((k : Int) == (X.n : Int)) = false := by simp; omega
       gi_upto_region 11 with (fail)
       clear q2
       generalize hWa : World.alloc _ _ = Wa
       obtain ⟨hba, hxa⟩ := bx1' hWa
       have HBX : Hid (Own Wa 112 W1.heap.size [.int .i64 (lo k), .int .i64 (hi k)]) := ⟨[], by rw [List.append_nil]; exact hxa⟩
       have HBK3 := Lib.hid (HBK2.out.trans (BKept.below hba))
       have HVC3 := Lib.hid (HVC2.out.below HYD.out hba)
       have HSZ3 : Hid (V.heap.size ≤ Wa.heap.size) := Nat.le_trans HSZ2.out hba.size
       have HNE : Hid (W1.heap.size ≠ X.bb ∧ W1.heap.size ≠ X.sb) := ⟨by have := HVC2.out.s.bnd.lt; omega, by have := HVC2.out.s.box.lt; omega⟩
       have b0 := HBX.out.cell (i := 0) rfl
       obtain ⟨xb, hxb⟩ : ∃ xb, xb = W1.heap.size := ⟨_, rfl⟩
       rw [← hxb] at b0 HBX HNE ⊢
       clear hWa hba hxa c1 c2 s0 d0 d1 HBK2 HVC2 HSZ2 hxb
       have HLT : Hid (fr * (2 * X.n + 1) ≤ k * (2 * X.n + 1) ∧ (k + 1) * (2 * X.n + 1) = k * (2 * X.n + 1) + (2 * X.n + 1) ∧ (k + 1) * (2 * X.n + 1) ≤ 400 * 801) := ⟨Nat.mul_le_mul_right _ hfk, Nat.succ_mul _ _, Nat.mul_le_mul (by omega) (by omega)⟩
       have r1 : -1000000 ≤ lo k := HRK.out.1
       have r2 : hi k ≤ 1000000 := HRK.out.2
       gi_wp2
       gi_loopw [10] (fun v wr => ∃ (x : Int) (Y : List (List Int)) (A2 : Option Addr) (oc2 : Nat), lo k ≤ x ∧ x ≤ hi k + 1 ∧ v = .int .i64 x ∧ Hid (EnumTo X.n lo hi P k x Y) ∧ Hid ((pre ++ Y).length ≤ 400) ∧ Hid (V.heap.size ≤ wr.heap.size) ∧ Hid (Own wr 112 xb [.int .i64 (lo k), .int .i64 (hi k)]) ∧ Hid (BKept X V wr) ∧ Hid (VAt wr X Bs b l I lo hi A2 oc2 H J (pre ++ Y))) (fun v _ => (hi k + 1 - intOf v).toNat)
       case atStart => exact ⟨lo k, [], A, oc, Int.le_refl _, by have := HB.out.le k hlt; omega, rfl, EnumTo.start _ _ _ _ hlt, by show _; rw [List.append_nil]; exact HPL.out, HSZ3, HBX, HBK3, by show _; rw [List.append_nil]; exact HVC3.out⟩
       case round =>
        clear b0 HBX HBK3 HVC3 HSZ3
        obtain ⟨x, Y, A2, oc2, hx0, hx1, rfl, HEN, HYL, HSZ, HBX, HBK, HVC⟩ := hrel
        have b1 := HBX.out.cell (i := 1) rfl
        by_cases hxh : x ≤ hi k
        · have c2 : wr.cell? ⟨Bs, 0, none⟩ = some (.pointer (some ⟨X.sb, 0, none⟩)) := HVC.out.it.sbox.cell rfl
          have s3 : wr.cell? ⟨X.sb, 3, none⟩ = some (.slice A2 H.length oc2) := HVC.out.s.box.cell rfl
          have HCH := Lib.hid (choose_any X P lo hi A2 oc2 H k x wr HVC.out.s HB.out HLB.out HLA.out hlt hx0 hxh (by omega) hP (by have h1 := HLT.out; have h2 := HHL.out; omega))
          gi_wp2_with (refine ⟨trivial, ?_⟩; gi_at_call 53; refine (callsIn_wide.2 HCH.out).mono ?_; rintro e W4 ⟨lo', hi', A4, oc4, H2, rfl, hs4, hm4, hl2, hbl, hbh, hin2, ⟨later, hup, hud⟩, earlier, hwn, hwd⟩; refine Hid.out ?_)
          refine Lib.hid ?_
          have HC := Lib.hid (chosen HB.out hlt hup hud hwn hwd)
          have HV4 : Hid (VAt W4 X Bs b l I lo' hi' A4 oc4 (H ++ H2) J (pre ++ Y)) := ⟨hs4, HVC.out.it.mvS hm4, HYD.out.mv _ _ _ HVC.out.j (MvB.of_mvS hm4)⟩
          have HBK4 := Lib.hid (HBK.out.trans (BKept.mvS hm4))
          have HBX4 := Lib.hid (HBX.out.mvS' hm4 HNE.out.2 HNE.out.1 (by decide))
          have HSZ4 : Hid (V.heap.size ≤ W4.heap.size) := Nat.le_trans HSZ.out hm4.size
          have HIN2 := Lib.hid hin2
          have HBL : Hid (backL H2 lo' = lo ∧ backH H2 hi' = hi) := ⟨hbl, hbh⟩
          have HL2 : Hid ((H ++ H2).length ≤ (k + 1) * (2 * X.n + 1)) := by show _ ≤ _; rw [List.length_append]; have h1 := HLT.out; have h2 := HHL.out; omega
          have hrec := HIH.out (X.n - (k + 1)) (by have := HFM.out; omega) (k + 1) (by omega) lo' hi' A4 oc4 (H ++ H2) (pre ++ Y) W4 HV4.out.s HC.out.1 (fun i hi0 => by
           have h1 := HC.out.2.2.2.2 i
           have h2 := HC.out.1.le i (by omega)
           by_cases e : i = k
           · rw [e, HC.out.2.2.1, HC.out.2.2.2.1]
           · have h3 := HOK.out i (by omega); omega) (fun i hi0 => by
           have h1 := HC.out.2.2.2.2 i
           have h2 := HRG.out i hi0
           omega) HV4.out.it HV4.out.j HYL.out HL2.out
          rw [show (((k + 1 : Nat)) : Int) = (k : Int) + 1 by omega] at hrec
          have HREC := Lib.hid hrec
          have c4 : W4.cell? ⟨I.vb, 0, none⟩ = some (.func (.func 52) #[] #[.pointer (some ⟨I.xb, 0, none⟩), .pointer (some ⟨Bs, 0, none⟩), .pointer (some ⟨I.yb, 0, none⟩), .pointer (some ⟨I.vb, 0, none⟩)]) := HV4.out.it.vbox.cell rfl
          clear hs4 hm4 hl2 hbl hbh hin2 hup hud hwn hwd hrec HCH c2 s3 b1 HVC HBK HBX HSZ later earlier
          have hk9 : (k : Int) + 1 ≤ 9223372036854775807 := by omega
          gi_wp2_with (refine ⟨trivial, ?_⟩; gi_at_call 52; refine (callsIn_wide.2 HREC.out).mono ?_; rintro e W5 ⟨more, Z, A5, oc5, rfl, hz, hsz5, hbk5, hit5, hs5, hmt, hmf⟩; refine Hid.out ?_)
          refine Lib.hid ?_
          have HS5 := Lib.hid hs5
          have HIT5 := Lib.hid hit5
          have HBK5 := Lib.hid (HBK4.out.trans hbk5)
          have HBX5 := Lib.hid (hbk5.own HBX4.out HNE.out.1 HNE.out.2)
          have HSZ5 : Hid (V.heap.size ≤ W5.heap.size) := Nat.le_trans HSZ4.out hsz5
          have HMT := Lib.hid hmt
          have HMF := Lib.hid hmf
          have HZ : Hid (EnumTo X.n lo hi P k (x + 1) (Y ++ Z)) := HEN.out.step hlt HOK.out hz HC.out.2.1
          have c5 : W5.cell? ⟨Bs, 0, none⟩ = some (.pointer (some ⟨X.sb, 0, none⟩)) := HIT5.out.sbox.cell rfl
          have HUN := Lib.hid (undo_any X lo' hi' A5 oc5 H H2 W5 HS5.out HIN2.out)
          clear hz hsz5 hbk5 hit5 hs5 hmt hmf HREC c4 HV4 HBK4 HBX4 HSZ4 HEN HIN2
          gi_wp2_with (refine ⟨trivial, ?_⟩; gi_at_call 54; refine (callsIn_wide.2 HUN.out).mono ?_; rintro e W6 ⟨rfl, hs6, hm6⟩; refine Hid.out ?_)
          refine Lib.hid ?_
          rw [HBL.out.1, HBL.out.2] at hs6
          have HS6 := Lib.hid hs6
          have HM6 := Lib.hid hm6
          have HIT6 := Lib.hid (HIT5.out.mvS hm6)
          have HBK6 := Lib.hid (HBK5.out.trans (BKept.mvS hm6))
          have HBX6 := Lib.hid (HBX5.out.mvS' hm6 HNE.out.2 HNE.out.1 (by decide))
          have HSZ6 : Hid (V.heap.size ≤ W6.heap.size) := Nat.le_trans HSZ5.out hm6.size
          clear hs6 hm6 c5 HUN HIT5 HBK5 HBX5 HSZ5 HS5
          cases more with
          | true =>
           obtain ⟨h7, h8⟩ := HMT.out rfl
           rw [List.append_assoc] at h7 h8
           have HV6 : Hid (VAt W6 X Bs b l I lo hi A5 oc5 H J (pre ++ (Y ++ Z))) := ⟨HS6.out, HIT6.out, HYD.out.mv _ _ _ h8 (MvB.of_mvS HM6.out)⟩
           have HL7 := Lib.hid h7
           clear h7 h8 HMT HMF HM6
           have hx9 : x + 1 ≤ 9223372036854775807 := by omega
           gi_wp2
           go_roundw
           case rel => exact ⟨x + 1, Y ++ Z, A5, oc5, by omega, by omega, by go_num, HZ, HL7, HSZ6, HBX6, HBK6, HV6⟩
           case measure => simp [intOf]; omega
          | false =>
           obtain ⟨h7, Y1, h8⟩ := HMF.out rfl
           obtain ⟨YF, hYF⟩ := IsEnum.ex X.n lo hi P
           have HL7 : Hid (400 < (pre ++ YF).length) := by
            have h9 := HZ.out.len hYF
            show _ < _
            simp only [List.length_append] at h7 h9 ⊢
            omega
           have HJ6 : Hid (∃ Y1, JL (pre ++ Y1) W6) := ⟨Y ++ Y1, by rw [← List.append_assoc]; exact HYD.out.mvL _ _ _ h8 (MvB.of_mvS HM6.out)⟩
           have HYF := Lib.hid hYF
           clear h7 h8 HMT HMF hYF
           gi_wp2
           go_ret
           exact ⟨false, YF, A5, oc5, rfl, HYF.out, HSZ6.out, HBK6.out, HIT6.out, HS6.out, (fun h => by cases h), fun _ => ⟨HL7.out, HJ6.out⟩⟩
        · obtain rfl : x = hi k + 1 := by omega
          have HED := Lib.hid (HEN.out.done hlt)
          gi_wp2
          go_ret
          exact ⟨true, Y, A2, oc2, rfl, HED.out, HSZ.out, HBK.out, HVC.out.it, HVC.out.s, fun _ => ⟨HYL.out, HVC.out.j⟩, fun h => by cases h⟩
   · obtain rfl : k = X.n := by omega
     gi_upto_region 1 with (fail)
     refine wpIn_region_preN 22 (Lax.wide _) (by simp) (by kernel_rfl) (by kernel_rfl) ?_
     simp only [List.take_succ_cons, List.take_zero, List.drop_succ_cons, List.drop_zero]
     repeat (go_big_quiet_step (fail))
     refine wpQuiet_nil ?_
     rintro _ ⟨mq, rfl⟩
     have hbm := below_drewN wr mq
     have HBK2 := Lib.hid (HBK.out.trans (BKept.below hbm))
     have HVC2 := Lib.hid (HVC.out.below HYD.out hbm)
     have HSZ2 : Hid (V.heap.size ≤ (wr.drewN mq).heap.size) := Nat.le_trans HSZ.out hbm.size
     clear hbm c1 c2 s0 HBK HVC HSZ
     generalize wr.drewN mq = W1 at HBK2 HVC2 HSZ2 ⊢
     have c1 : W1.cell? ⟨I.xb, 0, none⟩ = some (.slice (some ⟨I.nb, 0, none⟩) X.n X.n) := HVC2.out.it.nbox.cell rfl
     have c2 : W1.cell? ⟨Bs, 0, none⟩ = some (.pointer (some ⟨X.sb, 0, none⟩)) := HVC2.out.it.sbox.cell rfl
     have s0 : W1.cell? ⟨X.sb, 0, none⟩ = some (.slice (some ⟨X.bb, 0, none⟩) X.n X.n) := HVC2.out.s.box.cell rfl
     have HN0 : Hid (∃ N, NumTo lo X.n 0 N ∧ Own W1 3 I.nb (ints N)) := by
      obtain ⟨N, h1, h2⟩ := HVC2.out.it.num
      exact ⟨N, ⟨h1, fun i hi' => absurd hi' (Nat.not_lt_zero _)⟩, h2⟩
     gi_wp2
     gi_loopw [47] (fun v wr => ∃ (j : Nat) (N : List Int), j ≤ X.n ∧ v = .int .i64 j ∧ Hid (NumTo lo X.n j N) ∧ Hid (Own wr 3 I.nb (ints N)) ∧ Hid (V.heap.size ≤ wr.heap.size) ∧ Hid (BKept X V wr) ∧ Hid (VAt wr X Bs b l I lo hi A oc H J pre)) (fun v _ => X.n - (intOf v).toNat)
     case atStart =>
      obtain ⟨N, h1, h2⟩ := HN0.out
      exact ⟨0, N, Nat.zero_le _, rfl, h1, h2, HSZ2, HBK2, HVC2⟩
     case round =>
      clear c1 c2 s0 HN0 HSZ2 HBK2 HVC2
      obtain ⟨j, N, hj, rfl, HNT, HON, HSZ, HBK, HVC⟩ := hrel
      by_cases hltj : j < X.n
      · have d0 := HVC.out.s.bnd.cell (bndC_get lo hi hltj (j := 0) (by omega))
        have d1 := HVC.out.s.bnd.cell (bndC_get lo hi hltj (j := 1) (by omega))
        rw [Nat.add_zero] at d0
        have j1 : (j : Int) < (X.n : Int) := by omega
        gi_upto_region 7 with (fail)
        generalize hWa : World.alloc _ _ = Wa
        obtain ⟨hba, hxa⟩ := bx1' hWa
        have q0 : Wa.cell? ⟨wr.heap.size, 0, none⟩ = some (.int .i64 (lo j)) := (cell_of_row Wa _ 0 _ _ _ hxa).trans rfl
        have HBK2 := Lib.hid (HBK.out.trans (BKept.below hba))
        have HVC2 := Lib.hid (HVC.out.below HYD.out hba)
        have HON2 := Lib.hid (HON.out.below hba)
        have HSZ2 : Hid (V.heap.size ≤ Wa.heap.size) := Nat.le_trans HSZ.out hba.size
        have c1 : Wa.cell? ⟨I.xb, 0, none⟩ = some (.slice (some ⟨I.nb, 0, none⟩) X.n X.n) := HVC2.out.it.nbox.cell rfl
        have hNl := HNT.out.1
        obtain ⟨y, hy⟩ : ∃ y, N[j]? = some y := ⟨_, List.getElem?_eq_getElem (by omega)⟩
        have y0 := HON2.out.cell (ints_get hy)
        have f0 := HON2.out.frozen j
        have HNL := Lib.hid hNl
        clear hWa hba hxa d0 d1 HBK HVC HON HSZ hy hNl
        gi_wp2
        go_roundw
        case rel =>
         have hu : Upd (fun q => q = I.nb) Wa (Wa.setCell ⟨I.nb, j, none⟩ (.int .i64 (lo j))) := (Upd.refl (fun q => q = I.nb) Wa).setCell (p := ⟨I.nb, j, none⟩) (.inl rfl) _
         have ho := HON2.out.set (i := j) (by have := HNL.out; simp [ints]; omega) (.int .i64 (lo j))
         rw [ints_set] at ho
         have hv := HVC2.out.num HYD.out hu (by rw [List.length_set]; exact HNL.out) ho
         exact ⟨j + 1, N.set j (lo j), by omega, by go_num, HNT.out.step hltj, ho, Nat.le_trans HSZ2.out hu.size, HBK2.out.trans hv.2, hv.1⟩
        case measure => simp [intOf]; omega
      · obtain rfl : j = X.n := by omega
        have HEN : Hid (IsEnum X.n lo hi P [N]) := IsEnum.one HB.out HOK.out HNT.out.1 HNT.out.2
        have c1 : wr.cell? ⟨I.xb, 0, none⟩ = some (.slice (some ⟨I.nb, 0, none⟩) X.n X.n) := HVC.out.it.nbox.cell rfl
        have c3 : wr.cell? ⟨I.yb, 0, none⟩ = some (.func (.yield l) #[] #[]) := HVC.out.it.ybox.cell rfl
        by_cases hp : pre.length < 400
        · obtain ⟨fn, tmps, assign, body, hy, hR⟩ := YieldAt.depth (m' := 3) rfl (HYD.out.go pre N wr HVC.out.j ⟨hp, HNT.out.1, HON.out, HVC.out.it.sz⟩)
          have HP := Lib.hid hp
          gi_wp2
          refine hR.mono ?_
          rintro e W3 ⟨rfl, hJ3, hkp⟩
          have HJ3 := Lib.hid hJ3
          have HKP := Lib.hid hkp
          clear hJ3 hkp hy hR c1 c3
          gi_wp2
          go_ret
          exact ⟨true, [N], A, oc, rfl, HEN.out, Nat.le_trans HSZ.out HKP.out.1, HBK.out.trans (BKept.kp HKP.out), HVC.out.it.kp HKP.out, HVC.out.s.kp HKP.out, fun _ => ⟨by have := HP.out; simp; omega, HJ3.out⟩, fun h => by cases h⟩
        · have hp2 : pre.length = 400 := by have := HPL.out; omega
          obtain ⟨fn, tmps, assign, body, hy, hR⟩ := YieldAt.depth (m' := 3) rfl (HYD.out.stop pre N wr HVC.out.j ⟨hp2, HNT.out.1, HON.out, HVC.out.it.sz⟩)
          have HP := Lib.hid hp2
          clear hp hp2
          gi_wp2
          refine hR.mono ?_
          rintro e W3 ⟨rfl, hJ3, hkp⟩
          have HJ3 := Lib.hid hJ3
          have HKP := Lib.hid hkp
          clear hJ3 hkp hy hR c1 c3
          gi_wp2
          go_ret
          exact ⟨false, [N], A, oc, rfl, HEN.out, Nat.le_trans HSZ.out HKP.out.1, HBK.out.trans (BKept.kp HKP.out), HVC.out.it.kp HKP.out, HVC.out.s.kp HKP.out, (fun h => by cases h), fun _ => ⟨by have := HP.out; simp; omega, [N], HJ3.out⟩⟩
end Go.Proofs.YtahhdjeclbagnaaGreatDoor
