/-
  Seen0; Seen1
-/
import Derived.Test.YtaielhafpmjkaaaGreatDoorQ38
import Derived.Maps.AppendAt
namespace Go.Proofs.YtaielhafpmjkaaaGreatDoor
open Go.RowKit Go.Shelf
attribute [local go_sem] Oper.semAt_some
def seenB (C : KCon) (s : KState) (ps : List Int) (x : Int) : Bool := (x == -1) || ps.any (fun p => C.sees s p x)
def viewTo (C : KCon) (l : List Int) (ps : List Int) : Nat → List Int
 | 0 => []
 | k + 1 => match l[k]? with | some x => cond (seenB C (C.att (l.take k)) ps x) (viewTo C l ps k ++ [x]) (viewTo C l ps k) | none => viewTo C l ps k
theorem viewTo_len (C : KCon) (l ps : List Int) : ∀ k, (viewTo C l ps k).length ≤ k
 | 0 => Nat.le_refl _
 | k + 1 => by
  have := viewTo_len C l ps k
  rw [viewTo]
  cases l[k]? with
  | none => show (viewTo C l ps k).length ≤ _; omega
  | some x =>
   show (cond _ _ _ : List Int).length ≤ _
   cases seenB C (C.att (l.take k)) ps x
   · show (viewTo C l ps k).length ≤ _; omega
   · show (viewTo C l ps k ++ [x]).length ≤ _; rw [List.length_append, List.length_singleton]; omega
theorem viewTo_some {C : KCon} {l ps : List Int} {k : Nat} {x : Int} (h : l[k]? = some x) : viewTo C l ps (k + 1) = cond (seenB C (C.att (l.take k)) ps x) (viewTo C l ps k ++ [x]) (viewTo C l ps k) := by rw [viewTo, h]
theorem runSeq_any (v : CV) (C : KCon) (lA : Option Addr) (n lc : Nat) (w : World) : Calls Tryz.prog 103 #[v.val C, .slice lA n lc] w (fun e w' => e = .returned (.func (.func 116) #[] #[.pointer (some ⟨w.heap.size, 0, none⟩), .pointer (some ⟨w.heap.size + 1, 0, none⟩)]) ∧ w' = (w.alloc (.cells (v.cells C).toArray 27)).alloc (.cells #[.slice lA n lc] 22)) := by
 obtain ⟨⟨vhA, vhc⟩, ⟨vuA, vuc⟩, ⟨vaA, vac⟩, ⟨vkA, vkc⟩, ⟨voA, voc⟩⟩ := v
 simp only [CV.val, CV.cells]
 go_enter Tryz.func103, Tryz.ntmps103
 go_wp2
 go_ret
 exact ⟨rfl, rfl⟩
theorem wpListIn_append_int {F : Fence} {n : Nat} {W : World} {ops : Array Oper} {rest : List Oper} {o : Oper} {a : Act} {Q : Exit → Act → World → Prop}
 (hg : o.guard = none) (so x : Operand) (hop : o.op = Op.call { callee := Callee.builtin Builtin.append, args := #[so, x], argTypes := #[22, 22] })
 (B : Nat) (v : Value) (r : List Int) (hs : a.eval so = v) (hown : W.ownsRow B 3 1 v r.length (ints r)) (y : Int)
 (hx : a.eval x = .slice (some ⟨W.heap.size, 0, none⟩) 1 1) (hlen : r.length ≤ 1000000) (hBW : B ≤ W.heap.size)
 (hK : ∀ A' c' w', w'.ownsRow B 3 1 (.slice A' (r ++ [y]).length c') (r ++ [y]).length (ints (r ++ [y])) → (W.alloc (.cells #[.int .i64 y] 3)).grownBy w' v.ownBlock → ((Value.slice A' (r ++ [y]).length c').ownBlock = v.ownBlock ∨ (Value.slice A' (r ++ [y]).length c').ownBlock = some (W.heap.size + 1)) → wpListIn F n Tryz.prog ops Q rest (a.put o.dst (.slice A' (r ++ [y]).length c')) w') :
 wpListIn F n Tryz.prog ops Q (o :: rest) a (W.alloc (.cells #[.int .i64 y] 3)) := by
 obtain ⟨is, hsi, hsz, hss, hsb⟩ := info_parts' (P := Tryz.prog) (t := 3) (z := some (.int .i64 0)) (s := 1) (b := 8) (by kernel_rfl)
 refine wpListIn_plain hg fun K hK' => ?_
 obtain ⟨v', w', hrun, r1, r2, _, r4⟩ := run_append_own_at (P := Tryz.prog) (W.alloc (.cells #[.int .i64 y] 3)) B 22 o.type 3 is (.int .i64 0) 1 8 Tryz.underlying22 hsi hsz hss hsb rfl (by decide) v r.length (ints r) (World.ownsRow.alloc hown _) ⟨W.heap.size, 0, none⟩ 1 1 [.int .i64 y] rfl (cell_one_new W _ _) (by intro u hu; simp only [List.mem_singleton] at hu; subst hu; rfl) (by unfold maxLen; omega) (by omega) (by simp; omega)
 have hi : ints r ++ [.int .i64 y] = ints (r ++ [y]) := by simp [ints]
 have hl : r.length + 1 = (r ++ [y]).length := by simp
 rw [hi, hl] at r1
 obtain ⟨A', c', rfl, _⟩ := ownsRow_at r1 (by intro u hu; simp only [ints, List.mem_map] at hu; obtain ⟨_, _, rfl⟩ := hu; rfl)
 simp only [World.size_alloc] at r4
 unfold Oper.wpIn
 refine ⟨?_, ?_⟩
 · simp [Oper.about, hop, resolve, Target.leads, Sem.run_pure]
 · rw [Oper.semAt_plain F _ _ (by rw [hop]; intro c hc'; cases hc')]
   simp [execOp, hop, resolve, invoke, builtin, hs, hx, hrun, Result.andThen]
   exact hK' _ _ (by have h := hK A' c' w' r1 r2 r4; rw [← hl] at h; exact h)
def SeenPost (C : KCon) (l ps : List Int) (w : World) (e : Ending) (w' : World) : Prop :=
 ∃ (A : Option Addr) (c : Nat) (r : List Int) (er : Int), e = .returned (.tuple #[.slice A r.length c, .int .i64 er]) ∧ Below w.heap.size w w' ∧
  ((er = 0 ∧ (∀ (k : Nat) (x : Int), l[k]? = some x → C.stepErr (C.att (l.take k)) x = 0) ∧ r = viewTo C l ps l.length ∧ At w' 1 A r.length c (ints r)) ∨ (er ≠ 0 ∧ A = none ∧ c = 0 ∧ r = [] ∧ ∃ (k : Nat) (x : Int), l[k]? = some x ∧ C.stepErr (C.att (l.take k)) x ≠ 0))
structure SeenInv (bp bj : Nat) (v : CV) (C : KCon) (lA : Option Addr) (lc : Nat) (l ps : List Int) (w : World) (k : Nat) (V : World) : Prop where
 below : Below w.heap.size w V
 b0 : V.heap[w.heap.size]? = some (.cells (v.cells C).toArray 27 (0, 0))
 b1 : V.heap[w.heap.size + 1]? = some (.cells #[.func (.func 78) #[] #[.pointer (some ⟨bp, 0, none⟩), .pointer (some ⟨bj, 0, none⟩)]] 110 (0, 0))
 b2 : V.heap[w.heap.size + 1 + 1]? = some (.cells #[.slice none 0 0] 22 (0, 0))
 b3 : V.heap[w.heap.size + 1 + 1 + 1]? = some (.cells #[.int .i64 0] 35 (0, 0))
 b5 : V.heap[w.heap.size + 1 + 1 + 1 + 1 + 1]? = some (.cells (v.cells C).toArray 27 (0, 0))
 b6 : V.heap[w.heap.size + 1 + 1 + 1 + 1 + 1 + 1]? = some (.cells #[.slice lA l.length lc] 22 (0, 0))
 row : ∃ (A : Option Addr) (c : Nat), V.heap[w.heap.size + 1 + 1 + 1 + 1]? = some (.cells #[.slice A (viewTo C l ps k).length c] 22 (0, 0)) ∧ V.ownsRow (w.heap.size + 1 + 1 + 1 + 1 + 1 + 1 + 1) 3 1 (.slice A (viewTo C l ps k).length c) (viewTo C l ps k).length (ints (viewTo C l ps k))
def SeenFx (w : World) (k : Nat) : Prop := k = w.heap.size + 1 + 1 ∨ k = w.heap.size + 1 + 1 + 1 ∨ k = w.heap.size + 1 + 1 + 1 + 1
theorem rowOf_own {b8 : Nat} {V : World} {u : Value} {t : TypeId} (h : V.heap[b8]? = some (.cells #[u] t (0, 0))) : rowOf b8 V = u.ownBlock := by
 unfold rowOf
 rw [show V.cell? ⟨b8, 0, none⟩ = some u from (cell_of_row _ _ 0 _ _ _ h).trans rfl]
 rfl
section
variable {bp bj : Nat} {v : CV} {C : KCon} {lA : Option Addr} {lc : Nat} {l ps : List Int} {w : World} {k : Nat} {V : World}
theorem SeenInv.turns {B : Nat} (h : SeenInv bp bj v C lA lc l ps w k V) {V' : World} (hB : B = w.heap.size + 1 + 1 + 1 + 1 + 1 + 1 + 1) (ht : Turns 43 B V V') : SeenInv bp bj v C lA lc l ps w k V' := by
 have kp : ∀ {b : Nat} {o : Obj}, V.heap[b]? = some o → b < B → V'.heap[b]? = some o := fun {b o} hb hl => by
  rw [ht.block b (lt_of_heap hb) (fun hn => by have := hn.1; omega)]; exact hb
 obtain ⟨A, c, h4, hr⟩ := h.row
 refine ⟨h.below.trans (ht.below h.below.size (fun k hk => by have := hk.1; omega)), kp h.b0 (by omega), kp h.b1 (by omega), kp h.b2 (by omega), kp h.b3 (by omega), kp h.b5 (by omega), kp h.b6 (by omega), A, c, kp h4 (by omega), hr.1, ?_⟩
 rcases hr.2 with e | ⟨g, cap, cur, hv, hg, hh, rest⟩
 · exact .inl e
 · refine .inr ⟨g, cap, cur, hv, hg, ?_, rest⟩
   rw [ht.block g (lt_of_heap hh) (fun hn => ?_)]
   · exact hh
   · obtain ⟨_, o, ho, hc⟩ := hn
     rw [hh] at ho
     cases ho
     rcases hc with hc | ⟨cs, fz, hc⟩
     · cases hc
     · injection hc with _ hc _
       exact absurd hc (by decide)
theorem SeenInv.iter (h : SeenInv bp bj v C lA lc l ps w k V) (hC : ConAt w v C) (hL : At w 1 lA l.length lc (ints l)) : IterIn v C lA lc l (w.heap.size + 1 + 1 + 1 + 1 + 1) (w.heap.size + 1 + 1 + 1 + 1 + 1 + 1) (w.heap.size + 1 + 1 + 1 + 1) (SeenFx w) V := by
 obtain ⟨A, c, h4, hr⟩ := h.row
 refine ⟨hC.below h.below, h.b5, h.b6, hL.below (by omega) h.below, fun k hk => ?_, fun k hk => ?_, .inr (.inr rfl)⟩
 · rw [rowOf_own h4] at hk
   exact (hr.lt k hk).2
 · rcases hk with rfl | rfl | rfl
   · exact lt_of_heap h.b2
   · exact lt_of_heap h.b3
   · exact lt_of_heap h4
theorem SeenKp.left {B : Nat} (hB : B = w.heap.size + 1 + 1 + 1 + 1 + 1 + 1 + 1) {V Y : World} {l : Nat} {o o' : Obj} (ho : V.heap[l]? = some o) (hc : o.isCells = false) (hl : B ≤ l) (h : KpB (SeenFx w) (w.heap.size + 1 + 1 + 1 + 1) (V.putObj l o') Y) : KpB (SeenFx w) (w.heap.size + 1 + 1 + 1 + 1) V Y := by
 have er : rowOf (w.heap.size + 1 + 1 + 1 + 1) (V.putObj l o') = rowOf (w.heap.size + 1 + 1 + 1 + 1) V := rowOf_of (World.putObj_heap_other (by omega))
 have hsz : (V.putObj l o').heap.size = V.heap.size := by simp [World.putObj]
 refine ⟨⟨h.upd.os, h.upd.tape, h.upd.output, by rw [← hsz]; exact h.upd.size, fun k hk hn => ?_⟩, by have h2 := h.row; rw [er, hsz] at h2; exact h2⟩
 have hkl : k ≠ l := fun e => hn (.inr (.inr (by subst e; exact ⟨o, ho, hc⟩)))
 rw [h.upd.block k (by rw [hsz]; exact hk) (fun h' => hn ?_)]
 · exact World.putObj_heap_other hkl
 · rw [er] at h'
   rcases h' with h' | h' | ⟨o2, ho2, hc2⟩
   · exact .inl h'
   · exact .inr (.inl h')
   · rw [World.putObj_heap_other hkl] at ho2; exact .inr (.inr ⟨o2, ho2, hc2⟩)
theorem SeenKp.right {B : Nat} (hB : B = w.heap.size + 1 + 1 + 1 + 1 + 1 + 1 + 1) {V Y : World} {l : Nat} {o o' : Obj} (ho : V.heap[l]? = some o) (hc : o.isCells = false) (hl : B ≤ l) (h : KpB (SeenFx w) (w.heap.size + 1 + 1 + 1 + 1) V Y) : KpB (SeenFx w) (w.heap.size + 1 + 1 + 1 + 1) V (Y.putObj l o') := by
 have er : rowOf (w.heap.size + 1 + 1 + 1 + 1) (Y.putObj l o') = rowOf (w.heap.size + 1 + 1 + 1 + 1) Y := rowOf_of (World.putObj_heap_other (by omega))
 refine ⟨⟨h.upd.os, h.upd.tape, h.upd.output, by simpa [World.putObj] using h.upd.size, fun k hk hn => ?_⟩, by rw [er]; exact h.row⟩
 have hkl : k ≠ l := fun e => hn (.inr (.inr (by subst e; exact ⟨o, ho, hc⟩)))
 rw [World.putObj_heap_other hkl]
 exact h.upd.block k hk hn
theorem SeenKp.below {V V' Y : World} (hb : w.heap.size + 1 + 1 + 1 + 1 < V.heap.size) (hw : Below V.heap.size V V') (h : KpB (SeenFx w) (w.heap.size + 1 + 1 + 1 + 1) V' Y) : KpB (SeenFx w) (w.heap.size + 1 + 1 + 1 + 1) V Y := by
 have er : rowOf (w.heap.size + 1 + 1 + 1 + 1) V' = rowOf (w.heap.size + 1 + 1 + 1 + 1) V := rowOf_of (hw.block _ hb)
 refine ⟨⟨h.upd.os.trans hw.os, h.upd.tape.trans hw.tape, h.upd.output.trans hw.output, Nat.le_trans hw.size h.upd.size, fun k hk hn => ?_⟩, ?_⟩
 · rw [h.upd.block k (Nat.lt_of_lt_of_le hk hw.size) (fun h' => hn ?_), hw.block k hk]
   rw [er] at h'
   rcases h' with h' | h' | ⟨o2, ho2, hc2⟩
   · exact .inl h'
   · exact .inr (.inl h')
   · rw [hw.block k hk] at ho2; exact .inr (.inr ⟨o2, ho2, hc2⟩)
 · have := h.row
   rw [er] at this
   rcases this with h1 | h1
   · exact .inl h1
   · exact .inr (fun k hk => Nat.le_trans hw.size (h1 k hk))
end
end Go.Proofs.YtaielhafpmjkaaaGreatDoor
namespace Go.Proofs.YtaielhafpmjkaaaGreatDoor
open Go.RowKit Go.Shelf
attribute [local go_sem] Oper.semAt_some
theorem KeepsFrom.of_upd {Z : Nat → Prop} {B : Nat} {W W' : World} (h : Upd Z W W') (hz : ∀ (k : Nat) (o : Obj), Z k → B ≤ k → W.heap[k]? = some o → o.isCells = true) : KeepsFrom B W W' :=
 ⟨h.size, fun k o hk ho hc => by
  rw [h.block k (lt_of_heap ho) (fun hzk => by rw [hz k o hzk hk ho] at hc; cases hc)]
  exact ho⟩
theorem row1_set {w : World} {g : Nat} {y x : Value} {t : TypeId} (h : w.heap[g]? = some (.cells #[y] t (0, 0))) : (w.setCell ⟨g, 0, none⟩ x).heap[g]? = some (.cells #[x] t (0, 0)) := by
 simp [World.setCell, Array.getElem?_modify, h]
theorem At.updC {Z : Nat → Prop} {w w' : World} {size n c : Nat} {A : Option Addr} {xs : List Value} (h : At w size A n c xs) (hu : Upd Z w w') (hZ : ∀ k, Z k → NoCells w k) : At w' size A n c xs :=
 ⟨⟨h.1.1, h.1.2.1, fun hm => by
  obtain ⟨ad, rfl, hc⟩ := h.1.2.2 hm
  refine ⟨ad, rfl, fun j u hj => ?_⟩
  have h1 := hc j u hj
  obtain ⟨o, ho, hoc⟩ := cells_of_cell h1
  have hb : w'.heap[(ad.add j).block]? = w.heap[(ad.add j).block]? := hu.block _ (lt_of_heap ho) (fun hz => by
   obtain ⟨o2, ho2, hc2⟩ := hZ _ hz
   rw [ho] at ho2
   cases ho2
   rw [hoc] at hc2
   cases hc2)
  rw [← h1]
  simp [World.cell?, hb]⟩, h.2⟩
theorem SeenInv.skip {bp bj : Nat} {v : CV} {C : KCon} {lA : Option Addr} {lc : Nat} {l ps : List Int} {w : World} {k : Nat} {V z : World} (h : SeenInv bp bj v C lA lc l ps w k V) (hb : Below V.heap.size V z) (he : viewTo C l ps (k + 1) = viewTo C l ps k) : KeepsFrom (w.heap.size + 1 + 1 + 1 + 1 + 1 + 1 + 1) V z ∧ KpB (SeenFx w) (w.heap.size + 1 + 1 + 1 + 1) V z ∧ SeenInv bp bj v C lA lc l ps w (k + 1) z := by
 have hu : Upd (fun _ => False) V z := ⟨hb.os, hb.tape, hb.output, hb.size, fun k hk _ => hb.block k hk⟩
 obtain ⟨A, c, h4, hr⟩ := h.row
 refine ⟨KeepsFrom.of_upd hu (fun _ _ hf => hf.elim), ⟨hu.mono (fun _ _ hf => hf.elim), .inl (rowOf_of (hb.block _ (lt_of_heap h4)))⟩, ?_⟩
 refine ⟨Below.step h.below hb, hu.keep h.b0 id, hu.keep h.b1 id, hu.keep h.b2 id, hu.keep h.b3 id, hu.keep h.b5 id, hu.keep h.b6 id, A, c, ?_⟩
 rw [he]
 exact ⟨hu.keep h4 id, ownsRow_below hr hb⟩
theorem SeenInv.app {bp bj : Nat} {v : CV} {C : KCon} {lA : Option Addr} {lc : Nat} {l ps : List Int} {w : World} {k : Nat} {V z : World} (h : SeenInv bp bj v C lA lc l ps w k V) (hb : Below V.heap.size V z) {y : Int} (he : viewTo C l ps (k + 1) = viewTo C l ps k ++ [y])
 {A : Option Addr} {c : Nat} (h4 : V.heap[w.heap.size + 1 + 1 + 1 + 1]? = some (.cells #[.slice A (viewTo C l ps k).length c] 22 (0, 0))) (hr : V.ownsRow (w.heap.size + 1 + 1 + 1 + 1 + 1 + 1 + 1) 3 1 (.slice A (viewTo C l ps k).length c) (viewTo C l ps k).length (ints (viewTo C l ps k)))
 {A' : Option Addr} {c' : Nat} {w9 : World} (h9 : w9.ownsRow (w.heap.size + 1 + 1 + 1 + 1 + 1 + 1 + 1) 3 1 (.slice A' (viewTo C l ps k ++ [y]).length c') (viewTo C l ps k ++ [y]).length (ints (viewTo C l ps k ++ [y])))
 (hg : (z.alloc (.cells #[.int .i64 y] 3)).grownBy w9 (Value.slice A (viewTo C l ps k).length c).ownBlock)
 (hblk : (Value.slice A' (viewTo C l ps k ++ [y]).length c').ownBlock = (Value.slice A (viewTo C l ps k).length c).ownBlock ∨ (Value.slice A' (viewTo C l ps k ++ [y]).length c').ownBlock = some (z.heap.size + 1)) :
 KeepsFrom (w.heap.size + 1 + 1 + 1 + 1 + 1 + 1 + 1) V (w9.setCell ⟨w.heap.size + 1 + 1 + 1 + 1, 0, none⟩ (.slice A' (viewTo C l ps k ++ [y]).length c')) ∧ KpB (SeenFx w) (w.heap.size + 1 + 1 + 1 + 1) V (w9.setCell ⟨w.heap.size + 1 + 1 + 1 + 1, 0, none⟩ (.slice A' (viewTo C l ps k ++ [y]).length c')) ∧ SeenInv bp bj v C lA lc l ps w (k + 1) (w9.setCell ⟨w.heap.size + 1 + 1 + 1 + 1, 0, none⟩ (.slice A' (viewTo C l ps k ++ [y]).length c')) := by
 have hbz : Below V.heap.size V (z.alloc (.cells #[.int .i64 y] 3)) := Below.alloc' hb _
 have hu : Upd (fun k' => (Value.slice A (viewTo C l ps k).length c).ownBlock = some k') V w9 := by
  refine ⟨hg.os.trans hbz.os, hg.tape.trans hbz.tape, hg.output.trans hbz.output, Nat.le_trans hbz.size hg.size, fun k' hk hn => ?_⟩
  rw [hg.block k' (Nat.lt_of_lt_of_le hk hbz.size) (fun e => hn e.symm), hbz.block k' hk]
 have hrow : ∀ k', (Value.slice A (viewTo C l ps k).length c).ownBlock = some k' → w.heap.size + 1 + 1 + 1 + 1 + 1 + 1 + 1 ≤ k' ∧ ∃ cs, V.heap[k']? = some (.cells cs 3 (0, 0)) := fun k' hk => by
  rcases hr.2 with ⟨e, _⟩ | ⟨g, cap, cur, hv, hgB, hh, _⟩
  · rw [e] at hk; cases hk
  · rw [hv] at hk
    injection hk with hk
    simp only at hk
    subst hk
    exact ⟨hgB, cur, hh⟩
 have h49 : w9.heap[w.heap.size + 1 + 1 + 1 + 1]? = some (.cells #[.slice A (viewTo C l ps k).length c] 22 (0, 0)) := hu.keep h4 (fun e => by have := (hrow _ e).1; omega)
 have huf : Upd (fun k' => k' = w.heap.size + 1 + 1 + 1 + 1 ∨ (Value.slice A (viewTo C l ps k).length c).ownBlock = some k') V (w9.setCell ⟨w.heap.size + 1 + 1 + 1 + 1, 0, none⟩ (.slice A' (viewTo C l ps k ++ [y]).length c')) := (hu.mono (fun _ _ e => .inr e)).setCell (.inl (.inl rfl)) _
 have h4f := row1_set (x := .slice A' (viewTo C l ps k ++ [y]).length c') h49
 have kp : ∀ {b : Nat} {o : Obj}, V.heap[b]? = some o → b < w.heap.size + 1 + 1 + 1 + 1 + 1 + 1 + 1 → b ≠ w.heap.size + 1 + 1 + 1 + 1 → (w9.setCell ⟨w.heap.size + 1 + 1 + 1 + 1, 0, none⟩ (.slice A' (viewTo C l ps k ++ [y]).length c')).heap[b]? = some o := fun {b o} hbo hl hne => huf.keep hbo (fun e => by
  rcases e with e | e
  · exact hne e
  · have := (hrow _ e).1; omega)
 refine ⟨KeepsFrom.of_upd huf (fun k' o hz hB ho => ?_), ⟨huf.mono (fun k' _ e => ?_), ?_⟩, ?_⟩
 · rcases hz with e | e
   · omega
   · obtain ⟨_, cs, hcs⟩ := hrow _ e
     rw [hcs] at ho
     cases ho
     rfl
 · rcases e with e | e
   · exact .inl (.inr (.inr e))
   · exact .inr (.inl (by rw [rowOf_own h4]; exact e))
 · rw [rowOf_own h4f, rowOf_own h4]
   rcases hblk with e | e
   · exact .inl e
   · refine .inr (fun k' hk => ?_)
     rw [e] at hk
     injection hk with hk
     have := hb.size
     omega
 · refine ⟨h.below.trans (huf.below h.below.size (fun k' e => ?_)), kp h.b0 (by omega) (by omega), kp h.b1 (by omega) (by omega), kp h.b2 (by omega) (by omega), kp h.b3 (by omega) (by omega), kp h.b5 (by omega) (by omega), kp h.b6 (by omega) (by omega), A', c', ?_⟩
   · rcases e with e | e
     · omega
     · have := (hrow _ e).1; omega
   · rw [he]
     refine ⟨h4f, h9.1, ?_⟩
     rcases h9.2 with e | ⟨g, cap, cur, hv, hgB, hh, rest⟩
     · exact .inl e
     · refine .inr ⟨g, cap, cur, hv, hgB, ?_, rest⟩
       have := Below.heap_setCell w9 ⟨w.heap.size + 1 + 1 + 1 + 1, 0, none⟩ (.slice A' (viewTo C l ps k ++ [y]).length c') g (by simp only; omega)
       rw [this]
       exact hh
end Go.Proofs.YtaielhafpmjkaaaGreatDoor
