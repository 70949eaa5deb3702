/-
  CtA
-/
import Derived.Deep.AppendLies
import Derived.Sort.OwnSortedInts
import Derived.Test.YtahhdjeclbagnaaGreatDoorQ29
import Derived.Test.YtahhdjeclbagnaaGreatDoorQ16
namespace Go.Proofs.YtahhdjeclbagnaaGreatDoor
open Go.RowKit Go.Shelf
theorem ints_len (l : List Int) : (ints l).length = l.length := List.length_map _
theorem ints_snoc (l : List Int) (x : Int) : ints (l ++ [x]) = ints l ++ [.int .i64 x] := by simp [ints]
theorem ints_one (l : List Int) : ∀ u ∈ ints l, u.oneCell' = true := by
 intro u hu
 obtain ⟨x, _, rfl⟩ := List.mem_map.1 hu
 rfl
theorem ints_get {l : List Int} {i : Nat} {x : Int} (h : l[i]? = some x) : (ints l)[i]? = some (.int .i64 x) := by simp [ints, h]
section
variable {w w' : World} {B : Nat} {e : TypeId} {size n : Nat} {v : Value} {xs : List Value}
theorem ownsRow_upd {S : Nat → Prop} (h : w.ownsRow B e size v n xs) (hu : Upd S w w') (hS : ∀ k, v.ownBlock = some k → ¬ S k) : w'.ownsRow B e size v n xs := by
 refine ⟨h.1, ?_⟩
 rcases h.2 with h0 | ⟨g, cap, cur, rfl, hB, hg, r⟩
 · exact .inl h0
 · exact .inr ⟨g, cap, cur, rfl, hB, hu.keep hg (hS g rfl), r⟩
theorem ownsRow_base {B' : Nat} (h : w.ownsRow B e size v n xs) (hb : ∀ g, v.ownBlock = some g → B' ≤ g) : w.ownsRow B' e size v n xs := by
 refine ⟨h.1, ?_⟩
 rcases h.2 with h0 | ⟨g, cap, cur, rfl, hB, hg, r⟩
 · exact .inl h0
 · exact .inr ⟨g, cap, cur, rfl, hb g rfl, hg, r⟩
theorem ownsRow_cell {A : Option Addr} {c : Nat} (h : w.ownsRow B e size (.slice A n c) n xs) (hn : 0 < n) : ∃ g, A = some ⟨g, 0, none⟩ ∧ B ≤ g ∧ g < w.heap.size ∧ n ≤ c ∧ c ≤ maxLen ∧ ∀ i u, xs[i]? = some u → w.cell? ⟨g, i, none⟩ = some u := by
 rcases own_of_row h with ⟨h0, _⟩ | ⟨g, rfl, hB, ho⟩
 · omega
 · rcases h.2 with ⟨_, h0⟩ | ⟨g', cap, cur, hv, _, _, h2, h3, _⟩
   · omega
   · simp only [Value.slice.injEq, true_and] at hv
     obtain ⟨_, rfl⟩ := hv
     exact ⟨g, rfl, hB, ho.lt, h2, h3, fun i u hi => ho.cell hi⟩
end
theorem wpListIn_append_lies {F : Fence} {nf : Nat} {P : Program} {w : World} {ops : Array Oper} {rest : List Oper} {o : Oper} {a : Act} {Q : Exit → Act → World → Prop}
 (hg : o.guard = none) (s x : Operand) (t : TypeId) (hop : o.op = Op.call { callee := Callee.builtin Builtin.append, args := #[s, x], argTypes := #[t, t] })
 (base : Nat) (e : TypeId) (i : TypeInfo) (z : Value) (size bytes : Nat) (ht : P.underlying t = some (.slice e)) (hi : P.info? e = some i) (hz : i.zero = some z) (hsize : i.size = size) (hby : i.bytes = bytes) (hzs : z.cells.size = size) (hsz : 0 < size)
 (v : Value) (n : Nat) (xs : List Value) (hs : a.eval s = v) (hown : w.ownsRow base e size v n xs) (bx : Nat) (cs : Array Value) (tx : TypeId) (fr : Nat × Nat) (hx : a.eval x = .slice (some ⟨bx, 0, none⟩) 1 1) (hbx : w.heap[bx]? = some (.cells cs tx fr)) (hl : cs.size = size) (h1 : ∀ u ∈ cs.toList, u.oneCell' = true)
 (h63 : n + 1 ≤ maxLen) (hbytes : (n + 1) * bytes ≤ 140737488355328) (hbase : base ≤ w.heap.size)
 (hK : ∀ g cap w', w'.ownsRow base e size (.slice (some ⟨g, 0, none⟩) (n + 1) cap) (n + 1) (xs ++ cs.toList) → w.grownBy w' v.ownBlock → (v.ownBlock = some g ∨ g = w.heap.size) → wpListIn F nf P ops Q rest (a.put o.dst (.slice (some ⟨g, 0, none⟩) (n + 1) cap)) w') :
 wpListIn F nf P ops Q (o :: rest) a w := by
 refine wpListIn_plain hg fun K hK' => ?_
 obtain ⟨g, cap, w', hrun, r1, r2, r3, _⟩ := run_append_lies (P := P) w t o.type base e i z size bytes ht hi hz hsize hby hzs hsz v n xs hown ⟨bx, 0, none⟩ 1 1 cs.toList (by simp [hl]) (World.news_of_block hbx) h1 (by omega) h63 hbytes hbase _ rfl
 unfold Oper.wpIn
 refine ⟨?_, ?_⟩
 · simp [Oper.about, hop, resolve, Target.leads, Sem.run_pure]
 · rw [Oper.semAt_plain F _ _ (by rw [hop]; intro c hc'; cases hc')]
   simp [execOp, hop, resolve, invoke, builtin, hs, hx, hrun, Result.andThen]
   exact hK' _ _ (hK g cap w' r1 r2 r3)
def cellSpec (W0 : World) (e : TypeId) (cs : Array Value) : MSpec :=
 ⟨fun v => ∃ b, W0.heap.size ≤ b ∧ v = .slice (some ⟨b, 0, none⟩) 1 1, fun v z => ∀ b, v = .slice (some ⟨b, 0, none⟩) 1 1 → z.heap[b]? = some (.cells cs e (0, 0))⟩
theorem cellSpec_keeps (W0 : World) (e : TypeId) (cs : Array Value) : (cellSpec W0 e cs).Keeps := fun v z z' h hb b hv => by
 have h1 := h b hv
 rw [hb.block b (lt_of_heap h1)]
 exact h1
structure RowsAt (w : World) (B rb : Nat) (vs : List Value) (L : List (List Int)) (k : Nat) : Prop where
 own : Own w 22 rb vs
 len : vs.length = L.length
 row : ∀ (i : Nat) v l, k ≤ i → vs[i]? = some v → L[i]? = some l → w.ownsRow B 3 1 v l.length (ints l)
 sep : ∀ (i j : Nat) v v' b, i ≠ j → vs[i]? = some v → vs[j]? = some v' → v.ownBlock = some b → v'.ownBlock ≠ some b
 low : ∀ v ∈ vs, ∀ b, v.ownBlock = some b → B ≤ b ∧ b < w.heap.size ∧ b ≠ rb
section
variable {w w' : World} {B rb k : Nat} {vs : List Value} {L : List (List Int)}
theorem RowsAt.below (h : RowsAt w B rb vs L k) (hb : Below w.heap.size w w') : RowsAt w' B rb vs L k :=
 ⟨h.own.below hb, h.len, fun i v l hk hv hl => ownsRow_belowX (h.row i v l hk hv hl) hb, h.sep, fun v hv b hb' => ⟨(h.low v hv b hb').1, Nat.lt_of_lt_of_le (h.low v hv b hb').2.1 hb.size, (h.low v hv b hb').2.2⟩⟩
theorem RowsAt.upd {S : Nat → Prop} (h : RowsAt w B rb vs L k) (hu : Upd S w w') (hr : ¬ S rb) (hS : ∀ v ∈ vs, ∀ b, v.ownBlock = some b → ¬ S b) : RowsAt w' B rb vs L k :=
 ⟨h.own.keep hu hr, h.len, fun i v l hk hv hl => ownsRow_upd (h.row i v l hk hv hl) hu (hS v (List.mem_of_getElem? hv)), h.sep, fun v hv b hb' => ⟨(h.low v hv b hb').1, Nat.lt_of_lt_of_le (h.low v hv b hb').2.1 hu.size, (h.low v hv b hb').2.2⟩⟩
theorem RowsAt.get (h : RowsAt w B rb vs L k) {i : Nat} {l : List Int} (hk : k ≤ i) (hl : L[i]? = some l) : ∃ A c, vs[i]? = some (.slice A l.length c) ∧ w.ownsRow B 3 1 (.slice A l.length c) l.length (ints l) := by
 have hi : i < vs.length := by rw [h.len]; exact (List.getElem?_eq_some_iff.1 hl).1
 have hv := List.getElem?_eq_getElem hi
 have hr := h.row i _ l hk hv hl
 obtain ⟨A, c, e⟩ := ownsRow_form hr
 rw [e] at hv hr
 exact ⟨A, c, hv, hr⟩
theorem RowsAt.turned (h : RowsAt w B rb vs L k) {i : Nat} {v v' : Value} {l' : List Int} {S : Nat → Prop} {W : World} (hv : vs[i]? = some v) (hu : Upd S w W) (hS : ∀ b, S b → v.ownBlock = some b ∨ w.heap.size ≤ b) (hrow : W.ownsRow B 3 1 v' l'.length (ints l')) (hlie : v'.ownBlock = v.ownBlock ∨ ∀ b, v'.ownBlock = some b → w.heap.size ≤ b) :
 RowsAt (W.setCell ⟨rb, i, none⟩ v') B rb (vs.set i v') (L.set i l') k := by
 have hi : i < vs.length := (List.getElem?_eq_some_iff.1 hv).1
 have hrb := h.own.lt
 have hl0 := h.low v (List.mem_of_getElem? hv)
 have hnr : ¬ S rb := fun hs => by
  rcases hS rb hs with e | e
  · exact (hl0 rb e).2.2 rfl
  · omega
 have hown := h.own.keep hu hnr
 have hu2 : Upd (fun b => b = rb) W (W.setCell ⟨rb, i, none⟩ v') := (Upd.refl (fun b => b = rb) W).setCell (p := ⟨rb, i, none⟩) (.inl rfl) v'
 have hnew : ∀ b, v'.ownBlock = some b → B ≤ b ∧ b < W.heap.size ∧ b ≠ rb := fun b hb => by
  have h1 := hrow.lt b hb
  refine ⟨h1.1, h1.2, ?_⟩
  rintro rfl
  rcases hlie with e | e
  · rw [e] at hb
    exact (hl0 _ hb).2.2 rfl
  · have := e _ hb; omega
 have hother : ∀ (j : Nat) v2, j ≠ i → vs[j]? = some v2 → ∀ b, v2.ownBlock = some b → ¬ S b ∧ v'.ownBlock ≠ some b := fun j v2 hj hv2 b hb => by
  have hlt := (h.low v2 (List.mem_of_getElem? hv2) b hb).2.1
  refine ⟨fun hs => ?_, fun e2 => ?_⟩
  · rcases hS b hs with e | e
    · exact h.sep i j v v2 b (fun e => hj e.symm) hv hv2 e hb
    · omega
  · rcases hlie with e | e
    · rw [e] at e2
      exact h.sep i j v v2 b (fun e => hj e.symm) hv hv2 e2 hb
    · have := e b e2; omega
 refine ⟨hown.set hi _, by simp [h.len], fun j v2 l2 hk hv2 hl2 => ?_, fun j j2 v2 v3 b hne h2 h3 hb => ?_, fun v2 hv2 b hb => ?_⟩
 · rw [List.getElem?_set] at hv2 hl2
   by_cases e : i = j
   · subst e
     rw [if_pos rfl, if_pos hi] at hv2
     rw [if_pos rfl, if_pos (by rw [← h.len]; exact hi)] at hl2
     cases hv2
     cases hl2
     exact ownsRow_upd hrow hu2 (fun b hb => (hnew b hb).2.2)
   · rw [if_neg e] at hv2 hl2
     have hr := h.row j v2 l2 hk hv2 hl2
     refine ownsRow_upd (ownsRow_upd hr hu (fun b hb => (hother j v2 (fun e2 => e e2.symm) hv2 b hb).1)) hu2 (fun b hb => (h.low v2 (List.mem_of_getElem? hv2) b hb).2.2)
 · rw [List.getElem?_set] at h2 h3
   by_cases e : i = j
   · subst e
     rw [if_pos rfl, if_pos hi] at h2
     rw [if_neg hne] at h3
     cases h2
     exact fun e2 => (hother j2 v3 (fun e3 => hne e3.symm) h3 b e2).2 hb
   · rw [if_neg e] at h2
     by_cases e2 : i = j2
     · subst e2
       rw [if_pos rfl, if_pos hi] at h3
       cases h3
       exact (hother j v2 hne h2 b hb).2
     · rw [if_neg e2] at h3
       exact h.sep j j2 v2 v3 b hne h2 h3 hb
 · rw [World.size_setCell]
   rcases List.mem_or_eq_of_mem_set hv2 with h2 | rfl
   · have h3 := h.low v2 h2 b hb
     exact ⟨h3.1, Nat.lt_of_lt_of_le h3.2.1 hu.size, h3.2.2⟩
   · exact hnew b hb
theorem RowsAt.changed (h : RowsAt w B rb vs L k) {S : Nat → Prop} {W : World} {v : Value} (hv : vs[k]? = some v) (hu : Upd S w W) (hS : ∀ b, S b → v.ownBlock = some b) : RowsAt W B rb vs L (k + 1) := by
 have hl0 := h.low v (List.mem_of_getElem? hv)
 refine ⟨h.own.keep hu (fun hs => (hl0 rb (hS rb hs)).2.2 rfl), h.len, fun i v2 l hk hv2 hl => ownsRow_upd (h.row i v2 l (by omega) hv2 hl) hu (fun b hb hs => h.sep k i v v2 b (by omega) hv hv2 (hS b hs) hb), h.sep, fun v2 hv2 b hb' => ?_⟩
 have h3 := h.low v2 hv2 b hb'
 exact ⟨h3.1, Nat.lt_of_lt_of_le h3.2.1 hu.size, h3.2.2⟩
theorem RowsAt.made {n : Nat} (h : Own w 22 rb (List.replicate n (.slice none 0 0))) : RowsAt w B rb (List.replicate n (.slice none 0 0)) (List.replicate n []) 0 := by
 refine ⟨h, by simp, fun i v l _ hv hl => ?_, fun i j v v' b _ hv _ hb => ?_, fun v hv b hb => ?_⟩
 · rw [List.getElem?_replicate] at hv hl
   split at hv
   · rename_i hi
     rw [if_pos hi] at hl
     cases hv
     cases hl
     exact World.ownsRow_nil _ _ _ _
   · cases hv
 · rw [List.getElem?_replicate] at hv
   split at hv
   · cases hv; cases hb
   · cases hv
 · rw [List.eq_of_mem_replicate hv] at hb
   cases hb
end
theorem made_rows (n : Nat) : (madeCells (Value.cells (.slice none 0 0)) (n * 1)).toList = List.replicate n (.slice none 0 0) := by
 apply List.ext_getElem?
 intro j
 rcases Nat.lt_or_ge j n with h | h
 · simp [madeCells, Value.cells, h, Nat.mod_one]
 · simp [madeCells, Value.cells, h]
theorem sortRow_any {B : Nat} {A : Option Addr} {c : Nat} {l : List Int} (w : World) (h : w.ownsRow B 3 1 (.slice A l.length c) l.length (ints l)) (hl : l.length ≤ 1000000) :
 Calls Tryz.prog 36 #[.slice A l.length c] w (fun e w' => e = .returned (.tuple #[]) ∧ w'.ownsRow B 3 1 (.slice A l.length c) l.length (ints (l.mergeSort (fun x y => decide (x ≤ y)))) ∧ Upd (fun b => (Value.slice A l.length c).ownBlock = some b) w w') := by
 have hlen : (l.mergeSort (fun x y => decide (x ≤ y))).length = l.length := (List.mergeSort_perm l _).length_eq
 rcases h.2 with ⟨hv, h0⟩ | ⟨g, cap, cur, hv, hB, hg, h2, h3, h4, h5⟩
 · simp only [Value.slice.injEq] at hv
   obtain ⟨rfl, h0', rfl⟩ := hv
   obtain rfl := List.eq_nil_of_length_eq_zero h0
   refine (AnyM.slices_Sort_int_none Tryz.sortItI none 0 w).mono ?_
   rintro e w' ⟨rfl, rfl⟩
   exact ⟨rfl, by simpa using h, Upd.refl _ _⟩
 · simp only [Value.slice.injEq, true_and] at hv
   obtain ⟨rfl, rfl⟩ := hv
   rw [Nat.mul_one] at h5 h4
   refine (AnyM.slices_Sort_int Tryz.sortItI g 0 c l w (holds_of_blockI hg h5) (lt_of_heap hg) (by omega)).mono ?_
   rintro e w' ⟨rfl, n, os, rfl⟩
   refine ⟨rfl, ?_, Upd.of_grown (grownBy_sortedI _)⟩
   exact ownsRow_sortedI (cur := cur) hlen hB hg h2 h3 (by rw [h4, Nat.mul_one])
end Go.Proofs.YtahhdjeclbagnaaGreatDoor
