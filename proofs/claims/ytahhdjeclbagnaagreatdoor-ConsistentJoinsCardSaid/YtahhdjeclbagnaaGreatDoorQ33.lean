/-
  CtC; CtD
-/
import Derived.Test.YtahhdjeclbagnaaGreatDoorQ31
import Derived.Test.YtahhdjeclbagnaaGreatDoorQ24
import Derived.Test.YtahhdjeclbagnaaGreatDoorQ21
import Derived.Laws.StructEq
namespace Go.Proofs.YtahhdjeclbagnaaGreatDoor
open Go.RowKit Go.Shelf
def bndRow (lo hi : Nat → Int) (is : List Nat) : List Value := is.flatMap (fun i => [.int .i64 (lo i), .int .i64 (hi i)])
def bndC (lo hi : Nat → Int) (n : Nat) : List Value := bndRow lo hi (List.range n)
theorem bndC_len (lo hi : Nat → Int) (n : Nat) : (bndC lo hi n).length = n * 2 := by
 unfold bndC bndRow
 rw [length_flat (fun i : Nat => [Value.int .i64 (lo i), .int .i64 (hi i)]) 2 (fun _ => rfl), List.length_range]
theorem bndC_get (lo hi : Nat → Int) {n i j : Nat} (h : i < n) (hj : j < 2) : (bndC lo hi n)[i * 2 + j]? = ([.int .i64 (lo i), .int .i64 (hi i)] : List Value)[j]? :=
 get_flat (fun i : Nat => [Value.int .i64 (lo i), .int .i64 (hi i)]) 2 (fun _ => rfl) (List.range n) i j i (List.getElem?_range h) hj
theorem bndC_set (lo hi : Nat → Int) {n i : Nat} (h : i < n) (l u : Int) : ((bndC lo hi n).set (i * 2) (.int .i64 l)).set (i * 2 + 1) (.int .i64 u) = bndC (setAt lo i l) (setAt hi i u) n := by
 apply List.ext_getElem?
 intro q
 rcases Nat.lt_or_ge q (n * 2) with hq | hq
 · have hr := bndC_get (setAt lo i l) (setAt hi i u) (n := n) (i := q / 2) (j := q % 2) (by omega) (by omega)
   have ho := bndC_get lo hi (n := n) (i := q / 2) (j := q % 2) (by omega) (by omega)
   rw [show q / 2 * 2 + q % 2 = q by omega] at hr ho
   rw [hr, List.getElem?_set, List.getElem?_set]
   by_cases e1 : i * 2 + 1 = q
   · rw [if_pos e1, if_pos (by simp [bndC_len]; omega), show q / 2 = i by omega, show q % 2 = 1 by omega]
     simp [setAt_same]
   · rw [if_neg e1]
     by_cases e2 : i * 2 = q
     · rw [if_pos e2, if_pos (by rw [bndC_len]; omega), show q / 2 = i by omega, show q % 2 = 0 by omega]
       simp [setAt_same]
     · rw [if_neg e2, ho, setAt_other _ _ (by omega), setAt_other _ _ (by omega)]
 · rw [List.getElem?_eq_none (by simp [bndC_len]; omega), List.getElem?_eq_none (by rw [bndC_len]; exact hq)]
def TyS (t : TypeId) : Prop := t = 110 ∨ t = 112 ∨ t = 146
structure SX where
 B : Nat
 sb : Nat
 bb : Nat
 rb : Nat
 ab : Nat
 n : Nat
 vb : List Value
 va : List Value
 Lb : List (List Int)
 La : List (List Int)
def SSet (X : SX) (V : World) (k : Nat) : Prop := X.B ≤ k ∧ ∃ (cs : Array Value) (t : TypeId) (fz : Nat × Nat), V.heap[k]? = some (.cells cs t fz) ∧ TyS t ∧ (k = X.sb ∨ k = X.bb ∨ t = 146)
def MvS (X : SX) (V V' : World) : Prop := Upd (SSet X V) V V'
theorem MvS.refl (X : SX) (V : World) : MvS X V V := Upd.refl _ _
theorem MvS.trans {X : SX} {a b c : World} (h : MvS X a b) (k : MvS X b c) : MvS X a c := by
 refine Upd.trans h k (fun i hi ⟨h1, cs, t, fz, h2, h3⟩ => ?_)
 by_cases hz : SSet X a i
 · exact hz
 · rw [h.block i hi hz] at h2
   exact ⟨h1, cs, t, fz, h2, h3⟩
theorem MvS.of_below {X : SX} {V V' : World} (h : Below V.heap.size V V') : MvS X V V' := ⟨h.os, h.tape, h.output, h.size, fun k hk _ => h.block k hk⟩
theorem MvS.below {X : SX} {V V' : World} (h : MvS X V V') {m : Nat} (hm : m ≤ V.heap.size) (hB : m ≤ X.B) : Below m V V' := Upd.below h hm (fun _ hk => Nat.le_trans hB hk.1)
theorem MvS.of_upd {S : Nat → Prop} {X : SX} {V V' : World} (h : Upd S V V') (hS : ∀ i, S i → i < V.heap.size → SSet X V i) : MvS X V V' := h.mono (fun i hi hs => hS i hs hi)
theorem not_sset {X : SX} {V : World} {k : Nat} {cs : Array Value} {t : TypeId} {fz : Nat × Nat} (h : V.heap[k]? = some (.cells cs t fz)) (ht : ¬ TyS t) : ¬ SSet X V k := fun ⟨_, cs', t', fz', h1, h2, _⟩ => by
 rw [h] at h1
 cases h1
 exact ht h2
theorem Own.mvS {X : SX} {w w' : World} {t : TypeId} {b : Nat} {cs : List Value} (h : Own w t b cs) (hm : MvS X w w') (ht : ¬ TyS t) : Own w' t b cs := by
 obtain ⟨tl, h⟩ := h
 exact ⟨tl, hm.keep h (not_sset h ht)⟩
theorem Own.mvS' {X : SX} {w w' : World} {t : TypeId} {b : Nat} {cs : List Value} (h : Own w t b cs) (hm : MvS X w w') (h1 : b ≠ X.sb) (h2 : b ≠ X.bb) (ht : t ≠ 146) : Own w' t b cs := by
 obtain ⟨tl, h⟩ := h
 refine ⟨tl, hm.keep h (fun ⟨_, cs', t', fz', h3, _, h4⟩ => ?_)⟩
 rw [h] at h3
 cases h3
 rcases h4 with h4 | h4 | h4
 · exact h1 h4
 · exact h2 h4
 · exact ht h4
theorem ownsRow_mvS {X : SX} {B' : Nat} {w w' : World} {e : TypeId} {size n : Nat} {v : Value} {xs : List Value} (h : w.ownsRow B' e size v n xs) (hm : MvS X w w') (ht : ¬ TyS e) : w'.ownsRow B' e size v n xs := by
 refine ⟨h.1, ?_⟩
 rcases h.2 with h0 | ⟨g, cap, cur, rfl, hB, hg, r⟩
 · exact .inl h0
 · exact .inr ⟨g, cap, cur, rfl, hB, hm.keep hg (not_sset hg ht), r⟩
theorem Own.sset {X : SX} {w : World} {t : TypeId} {b : Nat} {cs : List Value} (h : Own w t b cs) (hB : X.B ≤ b) (ht : TyS t) (hx : b = X.sb ∨ b = X.bb ∨ t = 146) : SSet X w b := by
 obtain ⟨tl, h⟩ := h
 exact ⟨hB, _, _, _, h, ht, hx⟩
theorem Own.ne {w : World} {t t' : TypeId} {b b' : Nat} {cs cs' : List Value} (h : Own w t b cs) (h' : Own w t' b' cs') (ht : t ≠ t') : b ≠ b' := by
 rintro rfl
 obtain ⟨tl, h⟩ := h
 obtain ⟨tl', h'⟩ := h'
 rw [h] at h'
 injection h' with h'
 injection h' with _ h' _
 exact ht h'
theorem ownsRow_sset {X : SX} {B' : Nat} {w : World} {size n : Nat} {v : Value} {xs : List Value} (h : w.ownsRow B' 146 size v n xs) (hB : X.B ≤ B') {k : Nat} (hk : v.ownBlock = some k) : SSet X w k := by
 rcases h.2 with ⟨rfl, _⟩ | ⟨g, cap, cur, rfl, h1, h2, _⟩
 · cases hk
 · simp only [Value.ownBlock, Option.some.injEq] at hk
   subst hk
   exact ⟨Nat.le_trans hB h1, _, _, _, h2, .inr (.inr rfl), .inr (.inr rfl)⟩
theorem RowsAt.mvS {X : SX} {B' : Nat} {w w' : World} {rb : Nat} {vs : List Value} {L : List (List Int)} (h : RowsAt w B' rb vs L 0) (hm : MvS X w w') : RowsAt w' B' rb vs L 0 := by
 refine h.upd hm ?_ (fun v hv b hb => ?_)
 · obtain ⟨tl, h1⟩ := h.own
   exact not_sset h1 (by unfold TyS; decide)
 · obtain ⟨i, hi⟩ := List.mem_iff_getElem?.1 hv
   have hl : i < L.length := by rw [← h.len]; exact (List.getElem?_eq_some_iff.1 hi).1
   rcases (h.row i v _ (Nat.zero_le _) hi (List.getElem?_eq_getElem hl)).2 with ⟨rfl, _⟩ | ⟨g, cap, cur, rfl, _, h2, _⟩
   · cases hb
   · simp only [Value.ownBlock, Option.some.injEq] at hb
     subst hb
     exact not_sset h2 (by unfold TyS; decide)
structure SearchAt (w : World) (X : SX) (lo hi : Nat → Int) (A : Option Addr) (oc : Nat) (H : List (Nat × Int × Int)) : Prop where
 bef : RowsAt w X.B X.rb X.vb X.Lb 0
 aft : RowsAt w X.B X.ab X.va X.La 0
 lenB : X.Lb.length = X.n
 lenA : X.La.length = X.n
 box : Own w 110 X.sb [.slice (some ⟨X.bb, 0, none⟩) X.n X.n, .slice (some ⟨X.rb, 0, none⟩) X.n X.n, .slice (some ⟨X.ab, 0, none⟩) X.n X.n, .slice A H.length oc]
 bnd : Own w 112 X.bb (bndC lo hi X.n)
 old : w.ownsRow X.B 146 3 (.slice A H.length oc) H.length (H.flatMap chgC)
 low : X.B ≤ X.sb ∧ X.B ≤ X.bb
theorem SearchAt.below {w w' : World} {X : SX} {lo hi : Nat → Int} {A : Option Addr} {oc : Nat} {H : List (Nat × Int × Int)} (h : SearchAt w X lo hi A oc H) (hb : Below w.heap.size w w') : SearchAt w' X lo hi A oc H :=
 ⟨h.bef.below hb, h.aft.below hb, h.lenB, h.lenA, h.box.below hb, h.bnd.below hb, ownsRow_belowX h.old hb, h.low⟩
theorem SearchAt.setBnd {w : World} {X : SX} {lo hi : Nat → Int} {A : Option Addr} {oc : Nat} {H : List (Nat × Int × Int)} (h : SearchAt w X lo hi A oc H) (m : Nat) {i : Nat} (hi' : i < X.n) (l u : Int) :
 SearchAt (((w.drewN m).setCell ⟨X.bb, i * 2, none⟩ (.int .i64 l)).setCell ⟨X.bb, i * 2 + 1, none⟩ (.int .i64 u)) X (setAt lo i l) (setAt hi i u) A oc H ∧ MvS X w (((w.drewN m).setCell ⟨X.bb, i * 2, none⟩ (.int .i64 l)).setCell ⟨X.bb, i * 2 + 1, none⟩ (.int .i64 u)) := by
 have hbd := h.bnd
 have hbx := h.box
 have hud : Upd (fun _ => False) w (w.drewN m) := (Upd.refl _ _).drewN m
 have hbd2 := ((hbd.keep hud (fun h => h)).set (i := i * 2) (by rw [bndC_len]; omega) (.int .i64 l)).set (i := i * 2 + 1) (by rw [List.length_set, bndC_len]; omega) (.int .i64 u)
 rw [bndC_set lo hi hi'] at hbd2
 have hu4 : Upd (fun b => b = X.bb) w (((w.drewN m).setCell ⟨X.bb, i * 2, none⟩ (.int .i64 l)).setCell ⟨X.bb, i * 2 + 1, none⟩ (.int .i64 u)) :=
  (((Upd.refl (fun b => b = X.bb) w).drewN m).setCell (p := ⟨X.bb, i * 2, none⟩) (.inl rfl) _).setCell (p := ⟨X.bb, i * 2 + 1, none⟩) (.inl rfl) _
 have hmv4 : MvS X w (((w.drewN m).setCell ⟨X.bb, i * 2, none⟩ (.int .i64 l)).setCell ⟨X.bb, i * 2 + 1, none⟩ (.int .i64 u)) :=
  MvS.of_upd hu4 (fun k hk _ => by subst hk; exact hbd.sset h.low.2 (.inr (.inl rfl)) (.inr (.inl rfl)))
 refine ⟨⟨h.bef.mvS hmv4, h.aft.mvS hmv4, h.lenB, h.lenA, hbx.keep hu4 (fun e => hbx.ne hbd (by decide) e), hbd2, ownsRow_upd h.old hu4 (fun b hb e => ?_), h.low⟩, hmv4⟩
 subst e
 obtain ⟨tl, hbd⟩ := hbd
 exact ownBlock_ne h.old hbd (by decide) hb
theorem bndC_congr {lo hi lo' hi' : Nat → Int} {n : Nat} (h : ∀ i, i < n → lo i = lo' i ∧ hi i = hi' i) : bndC lo hi n = bndC lo' hi' n := by
 have key : ∀ l : List Nat, (∀ i ∈ l, i < n) → bndRow lo hi l = bndRow lo' hi' l := fun l hl => by
  unfold bndRow
  induction l with
  | nil => rfl
  | cons i l ih => rw [List.flatMap_cons, List.flatMap_cons, ih (fun j hj => hl j (List.mem_cons_of_mem _ hj)), (h i (hl i (by simp))).1, (h i (hl i (by simp))).2]
 exact key _ (fun i hi => List.mem_range.1 hi)
theorem SearchAt.congr {w : World} {X : SX} {lo hi lo' hi' : Nat → Int} {A : Option Addr} {oc : Nat} {H : List (Nat × Int × Int)} (h : SearchAt w X lo hi A oc H) (e : ∀ i, i < X.n → lo i = lo' i ∧ hi i = hi' i) : SearchAt w X lo' hi' A oc H :=
 ⟨h.bef, h.aft, h.lenB, h.lenA, h.box, by rw [← bndC_congr e]; exact h.bnd, h.old, h.low⟩
theorem chgs_one (H : List (Nat × Int × Int)) : ∀ u ∈ H.flatMap chgC, u.oneCell' = true := by
 intro u hu
 obtain ⟨x, _, hx⟩ := List.mem_flatMap.1 hu
 simp only [chgC, List.mem_cons, List.not_mem_nil, or_false] at hx
 rcases hx with rfl | rfl | rfl <;> rfl
theorem SearchAt.befPut {w W : World} {X : SX} {lo hi : Nat → Int} {A : Option Addr} {oc : Nat} {H : List (Nat × Int × Int)} (h : SearchAt w X lo hi A oc H) {i : Nat} {v v' : Value} {l' : List Int} (hv : X.vb[i]? = some v) (hu : Upd (fun b => v.ownBlock = some b) w W)
 (hrow : W.ownsRow X.B 3 1 v' l'.length (ints l')) (hlie : v'.ownBlock = v.ownBlock ∨ ∀ b, v'.ownBlock = some b → w.heap.size ≤ b) (hne : X.rb ≠ X.ab) (hsep : ∀ v ∈ X.vb, ∀ v' ∈ X.va, ∀ b, v.ownBlock = some b → v'.ownBlock ≠ some b) :
 SearchAt (W.setCell ⟨X.rb, i, none⟩ v') { X with vb := X.vb.set i v', Lb := X.Lb.set i l' } lo hi A oc H ∧ Upd (fun b => v.ownBlock = some b ∨ b = X.rb) w (W.setCell ⟨X.rb, i, none⟩ v') ∧
  (∀ u ∈ X.vb.set i v', ∀ u' ∈ X.va, ∀ b, u.ownBlock = some b → u'.ownBlock ≠ some b) := by
 have hi : i < X.vb.length := (List.getElem?_eq_some_iff.1 hv).1
 have hl := List.getElem?_eq_getElem (l := X.Lb) (i := i) (by rw [← h.bef.len]; exact hi)
 have hr0 := h.bef.row i v _ (Nat.zero_le _) hv hl
 have hmv := List.mem_of_getElem? hv
 have hS : ∀ {t : TypeId} {b : Nat} {cs : List Value}, Own w t b cs → t ≠ 3 → ¬ (v.ownBlock = some b) := fun ho ht => by
  obtain ⟨tl, ho⟩ := ho
  exact ownBlock_ne hr0 ho ht
 have hu2 : Upd (fun b => v.ownBlock = some b ∨ b = X.rb) w (W.setCell ⟨X.rb, i, none⟩ v') := (hu.mono (fun _ _ h => .inl h)).setCell (p := ⟨X.rb, i, none⟩) (.inl (.inr rfl)) v'
 have hk : ∀ {t : TypeId} {b : Nat} {cs : List Value}, Own w t b cs → t ≠ 3 → b ≠ X.rb → Own (W.setCell ⟨X.rb, i, none⟩ v') t b cs := fun ho ht hb => ho.keep hu2 (fun e => by
  rcases e with e | e
  · exact hS ho ht e
  · exact hb e)
 have hother : ∀ u ∈ X.va, ∀ b, u.ownBlock = some b → v.ownBlock ≠ some b ∧ v'.ownBlock ≠ some b ∧ b ≠ X.rb := fun u hu' b hb => by
  have h1 := h.aft.low u hu' b hb
  have h2 : v.ownBlock ≠ some b := fun e => hsep v hmv u hu' b e hb
  refine ⟨h2, fun e => ?_, fun e => ?_⟩
  · rcases hlie with e2 | e2
    · rw [e2] at e; exact h2 e
    · have := e2 b e; omega
  · subst e
    obtain ⟨j, hj⟩ := List.mem_iff_getElem?.1 hu'
    have hlj : j < X.La.length := by rw [← h.aft.len]; exact (List.getElem?_eq_some_iff.1 hj).1
    obtain ⟨tl, ho⟩ := h.bef.own
    exact ownBlock_ne (h.aft.row j u _ (Nat.zero_le _) hj (List.getElem?_eq_getElem hlj)) ho (by decide) hb
 have ht := h.bef.turned hv hu (fun b hb => .inl hb) hrow hlie
 have hq : RowsAt (W.setCell ⟨X.rb, i, none⟩ v') X.B X.ab X.va X.La 0 := h.aft.upd hu2 (fun e => by
  rcases e with e | e
  · exact hS h.aft.own (by decide) e
  · exact hne e.symm) (fun u hu' b hb e => by
  rcases e with e | e
  · exact (hother u hu' b hb).1 e
  · exact (hother u hu' b hb).2.2 e)
 have hold : (W.setCell ⟨X.rb, i, none⟩ v').ownsRow X.B 146 3 (.slice A H.length oc) H.length (H.flatMap chgC) := ownsRow_upd h.old hu2 (fun b hb e => by
  rcases e with e | e
  · rcases hr0.2 with ⟨rfl, _⟩ | ⟨g, cap, cur, rfl, _, hg, _⟩
    · cases e
    · simp only [Value.ownBlock, Option.some.injEq] at e
      subst e
      exact ownBlock_ne h.old hg (by decide) hb
  · subst e
    obtain ⟨tl, ho⟩ := h.bef.own
    exact ownBlock_ne h.old ho (by decide) hb)
 refine ⟨⟨ht, hq, by simpa using h.lenB, h.lenA, hk h.box (by decide) (fun e => h.box.ne h.bef.own (by decide) e), hk h.bnd (by decide) (fun e => h.bnd.ne h.bef.own (by decide) e), hold, h.low⟩, hu2, fun u hu1 u' hu1' b hb => ?_⟩
 rcases List.mem_or_eq_of_mem_set hu1 with h2 | rfl
 · exact hsep u h2 u' hu1' b hb
 · exact fun e => (hother u' hu1' b e).2.1 hb
theorem SearchAt.aftPut {w W : World} {X : SX} {lo hi : Nat → Int} {A : Option Addr} {oc : Nat} {H : List (Nat × Int × Int)} (h : SearchAt w X lo hi A oc H) {i : Nat} {v v' : Value} {l' : List Int} (hv : X.va[i]? = some v) (hu : Upd (fun b => v.ownBlock = some b) w W)
 (hrow : W.ownsRow X.B 3 1 v' l'.length (ints l')) (hlie : v'.ownBlock = v.ownBlock ∨ ∀ b, v'.ownBlock = some b → w.heap.size ≤ b) (hne : X.rb ≠ X.ab) (hsep : ∀ v ∈ X.vb, ∀ v' ∈ X.va, ∀ b, v.ownBlock = some b → v'.ownBlock ≠ some b) :
 SearchAt (W.setCell ⟨X.ab, i, none⟩ v') { X with va := X.va.set i v', La := X.La.set i l' } lo hi A oc H ∧ Upd (fun b => v.ownBlock = some b ∨ b = X.ab) w (W.setCell ⟨X.ab, i, none⟩ v') ∧
  (∀ u ∈ X.vb, ∀ u' ∈ X.va.set i v', ∀ b, u.ownBlock = some b → u'.ownBlock ≠ some b) := by
 have hi : i < X.va.length := (List.getElem?_eq_some_iff.1 hv).1
 have hl := List.getElem?_eq_getElem (l := X.La) (i := i) (by rw [← h.aft.len]; exact hi)
 have hr0 := h.aft.row i v _ (Nat.zero_le _) hv hl
 have hmv := List.mem_of_getElem? hv
 have hS : ∀ {t : TypeId} {b : Nat} {cs : List Value}, Own w t b cs → t ≠ 3 → ¬ (v.ownBlock = some b) := fun ho ht => by
  obtain ⟨tl, ho⟩ := ho
  exact ownBlock_ne hr0 ho ht
 have hu2 : Upd (fun b => v.ownBlock = some b ∨ b = X.ab) w (W.setCell ⟨X.ab, i, none⟩ v') := (hu.mono (fun _ _ h => .inl h)).setCell (p := ⟨X.ab, i, none⟩) (.inl (.inr rfl)) v'
 have hk : ∀ {t : TypeId} {b : Nat} {cs : List Value}, Own w t b cs → t ≠ 3 → b ≠ X.ab → Own (W.setCell ⟨X.ab, i, none⟩ v') t b cs := fun ho ht hb => ho.keep hu2 (fun e => by
  rcases e with e | e
  · exact hS ho ht e
  · exact hb e)
 have hother : ∀ u ∈ X.vb, ∀ b, u.ownBlock = some b → v.ownBlock ≠ some b ∧ v'.ownBlock ≠ some b ∧ b ≠ X.ab := fun u hu' b hb => by
  have h1 := h.bef.low u hu' b hb
  have h2 : v.ownBlock ≠ some b := fun e => hsep u hu' v hmv b hb e
  refine ⟨h2, fun e => ?_, fun e => ?_⟩
  · rcases hlie with e2 | e2
    · rw [e2] at e; exact h2 e
    · have := e2 b e; omega
  · subst e
    obtain ⟨j, hj⟩ := List.mem_iff_getElem?.1 hu'
    have hlj : j < X.Lb.length := by rw [← h.bef.len]; exact (List.getElem?_eq_some_iff.1 hj).1
    obtain ⟨tl, ho⟩ := h.aft.own
    exact ownBlock_ne (h.bef.row j u _ (Nat.zero_le _) hj (List.getElem?_eq_getElem hlj)) ho (by decide) hb
 have ht := h.aft.turned hv hu (fun b hb => .inl hb) hrow hlie
 have hq : RowsAt (W.setCell ⟨X.ab, i, none⟩ v') X.B X.rb X.vb X.Lb 0 := h.bef.upd hu2 (fun e => by
  rcases e with e | e
  · exact hS h.bef.own (by decide) e
  · exact hne e) (fun u hu' b hb e => by
  rcases e with e | e
  · exact (hother u hu' b hb).1 e
  · exact (hother u hu' b hb).2.2 e)
 have hold : (W.setCell ⟨X.ab, i, none⟩ v').ownsRow X.B 146 3 (.slice A H.length oc) H.length (H.flatMap chgC) := ownsRow_upd h.old hu2 (fun b hb e => by
  rcases e with e | e
  · rcases hr0.2 with ⟨rfl, _⟩ | ⟨g, cap, cur, rfl, _, hg, _⟩
    · cases e
    · simp only [Value.ownBlock, Option.some.injEq] at e
      subst e
      exact ownBlock_ne h.old hg (by decide) hb
  · subst e
    obtain ⟨tl, ho⟩ := h.aft.own
    exact ownBlock_ne h.old ho (by decide) hb)
 refine ⟨⟨hq, ht, h.lenB, by simpa using h.lenA, hk h.box (by decide) (fun e => h.box.ne h.aft.own (by decide) e), hk h.bnd (by decide) (fun e => h.bnd.ne h.aft.own (by decide) e), hold, h.low⟩, hu2, fun u hu1 u' hu1' b hb => ?_⟩
 rcases List.mem_or_eq_of_mem_set hu1' with h2 | rfl
 · exact hsep u hu1 u' h2 b hb
 · exact (hother u hu1 b hb).2.1
def appSpec (Z : World) (B : Nat) (e : TypeId) (size n : Nat) (v : Value) (xs : List Value) : MSpec :=
 ⟨fun u => ∃ g c, u = .slice (some ⟨g, 0, none⟩) n c, fun u z => z.ownsRow B e size u n xs ∧ (u.ownBlock = v.ownBlock ∨ ∀ b, u.ownBlock = some b → Z.heap.size ≤ b)⟩
theorem appSpec_keeps (Z : World) (B : Nat) (e : TypeId) (size n : Nat) (v : Value) (xs : List Value) : (appSpec Z B e size n v xs).Keeps := fun _ _ _ h hb => ⟨ownsRow_belowX h.1 hb, h.2⟩
def cellSpecT (W0 : World) (e : TypeId) (cs : Array Value) : MSpec :=
 ⟨fun v => ∃ b, W0.heap.size ≤ b ∧ v = .slice (some ⟨b, 0, none⟩) 1 1, fun v z => ∀ b, v = .slice (some ⟨b, 0, none⟩) 1 1 → W0.heap.size ≤ b ∧ z.heap[b]? = some (.cells cs e (0, 0))⟩
theorem cellSpecT_keeps {ops : Array Oper} (W0 : World) (e : TypeId) (cs : Array Value) (S : Nat → Prop) (f i : Nat) (hS : ∀ k, S k → k < W0.heap.size) : KeepsT ops (Upd S) f i (cellSpecT W0 e cs) := by
 refine ⟨fun v z z' h hb b hv => ?_, fun _ _ v z z' h hu b hv => ?_⟩
 · obtain ⟨h1, h2⟩ := h b hv
   exact ⟨h1, (hb.block b (lt_of_heap h2)).trans h2⟩
 · obtain ⟨h1, h2⟩ := h b hv
   exact ⟨h1, hu.keep h2 (fun hs => by have := hS _ hs; omega)⟩
theorem turns_upd (Z : World) (S : Nat → Prop) : Turns (fun z => Below Z.heap.size Z z) (fun z => Upd S Z z) (fun z z' => Upd S z z') where
 sub := fun _ h => ⟨h.os, h.tape, h.output, h.size, fun k hk _ => h.block k hk⟩
 b0 := fun _ _ h hb => Below.step h hb
 b1 := fun _ _ h hb => updOn h hb
 t := fun _ _ h hu => Upd.trans (S := S) ⟨h.os, h.tape, h.output, h.size, fun k hk _ => h.block k hk⟩ hu (fun _ _ h => h)
theorem turned_append {P : Program} {Z z : World} {o : Oper} {ρ : Operand → Value} (s x : Operand) (t : TypeId) (hop : o.op = Op.call { callee := Callee.builtin Builtin.append, args := #[s, x], argTypes := #[t, t] })
 (base : Nat) (e : TypeId) (i : TypeInfo) (z0 : Value) (size bytes : Nat) (ht : P.underlying t = some (.slice e)) (hi : P.info? e = some i) (hz : i.zero = some z0) (hsize : i.size = size) (hby : i.bytes = bytes) (hzs : z0.cells.size = size) (hsz : 0 < size)
 (v : Value) (n : Nat) (xs : List Value) (hs : ρ s = v) (hown : z.ownsRow base e size v n xs) (bx : Nat) (cs : Array Value) (tx : TypeId) (fr : Nat × Nat) (hx : ρ x = .slice (some ⟨bx, 0, none⟩) 1 1) (hbx : z.heap[bx]? = some (.cells cs tx fr)) (hl : cs.size = size) (h1 : ∀ u ∈ cs.toList, u.oneCell' = true)
 (h63 : n + 1 ≤ maxLen) (hbytes : (n + 1) * bytes ≤ 140737488355328) (hbase : base ≤ z.heap.size) (hZ : Z.heap.size ≤ z.heap.size) :
 turnedUpon (Upd (fun b => v.ownBlock = some b)) z (appSpec Z base e size (n + 1) v (xs ++ cs.toList)) ((execOp ρ o).run P z) := by
 obtain ⟨g, cap, w', hrun, r1, r2, r3, _⟩ := run_append_lies (P := P) z t o.type base e i z0 size bytes ht hi hz hsize hby hzs hsz v n xs hown ⟨bx, 0, none⟩ 1 1 cs.toList (by simp [hl]) (World.news_of_block hbx) h1 (by omega) h63 hbytes hbase _ rfl
 simp only [execOp, hop, resolve, invoke, builtin, Sem.run_bind, Sem.run_pure, Result.andThen_ok, List.map_toArray, List.map_cons, List.map_nil, hs, hx, hrun]
 refine ⟨⟨g, cap, rfl⟩, ⟨r1, ?_⟩, Upd.of_grown r2⟩
 rcases r3 with r3 | r3
 · exact .inl (by rw [r3]; rfl)
 · exact .inr (fun b hb => by simp only [Value.ownBlock, Option.some.injEq] at hb; omega)
end Go.Proofs.YtahhdjeclbagnaaGreatDoor
namespace Go.Proofs.YtahhdjeclbagnaaGreatDoor
open Go.RowKit Go.Shelf
def SetPost (X : SX) (lo hi : Nat → Int) (H : List (Nat × Int × Int)) (v : Value) (w : World) (e : Ending) (w' : World) : Prop :=
 ∃ (A : Option Addr) (oc : Nat), e = .returned v ∧ SearchAt w' X lo hi A oc H ∧ MvS X w w'
theorem eqBnd (a b c d : Int) (w : World) : (Op.equalIn 10000 112 (.agg #[.int .i64 a, .int .i64 b]) (.agg #[.int .i64 c, .int .i64 d])).run Tryz.prog w = .ok (decide (a = c) && decide (b = d)) w := by
 have u3 := Tryz.underlying3
 have hS : Tryz.prog.underlying 112 = some (.struct (Tryz.prog.fieldsOf 112)) := by kernel_rfl
 rw [show (10000 : Nat) = 9999 + 1 from rfl, run_equalIn_agg w 9999 112 _ _ hS (by kernel_rfl)]
 simp only [Program.fieldsOf, Tryz.underlying112]
 go_simp
 by_cases h1 : a = c <;> by_cases h2 : b = d <;> simp [h1, h2]
theorem guardBnd : Tryz.prog.eqGuardType Tryz.prog.depth 112 = false := by kernel_rfl
attribute [local go_sem] stillB stillC stillUpon makesUpon
set_option maxRecDepth 100000 in
set_option maxHeartbeats 4000000 in
theorem set_any (X : SX) (lo hi : Nat → Int) (A : Option Addr) (oc : Nat) (H : List (Nat × Int × Int)) (a : Nat) (l u : Int) (w : World) (hS : SearchAt w X lo hi A oc H) (ha : a < X.n) (hH : H.length ≤ 1000000) :
 Calls Tryz.prog 75 #[.pointer (some ⟨X.sb, 0, none⟩), .int .i64 a, .agg #[.int .i64 l, .int .i64 u]] w
  (SetPost X (if lo a = l ∧ hi a = u then lo else setAt lo a l) (if lo a = l ∧ hi a = u then hi else setAt hi a u) (if lo a = l ∧ hi a = u then H else H ++ [(a, lo a, hi a)]) (.bool (!decide (lo a = l ∧ hi a = u))) w) := by
 by_cases he : lo a = l ∧ hi a = u
 · simp only [if_pos he, decide_eq_true he, Bool.not_true]
   have HE := Lib.hid he; clear he
   have HS := Lib.hid hS; clear hS
   go_enter Tryz.func75, Tryz.ntmps75
   go_upto_region 1 with (fail)
   generalize hW0 : World.alloc _ _ = W0
   obtain ⟨HB, hh0⟩ := bx1 hW0
   have HX0 : Hid (Own W0 112 w.heap.size [.int .i64 l, .int .i64 u]) := ⟨[], by rw [List.append_nil]; exact hh0⟩
   have HS0 := Lib.hid (HS.out.below HB.out)
   clear hh0 hW0 HS
   have b0 : ∀ z : Bl W0, z.val.cell? ⟨w.heap.size, 0, none⟩ = some (.int .i64 l) := fun z => (HX0.out.below z.prop).cell rfl
   have b1 : ∀ z : Bl W0, z.val.cell? ⟨w.heap.size, 1, none⟩ = some (.int .i64 u) := fun z => (HX0.out.below z.prop).cell rfl
   have s0 : ∀ z : Bl W0, z.val.cell? ⟨X.sb, 0, none⟩ = some (.slice (some ⟨X.bb, 0, none⟩) X.n X.n) := fun z => (HS0.out.below z.prop).box.cell rfl
   have s3 : ∀ z : Bl W0, z.val.cell? ⟨X.sb, 3, none⟩ = some (.slice A H.length oc) := fun z => (HS0.out.below z.prop).box.cell rfl
   have d0 : ∀ z : Bl W0, z.val.cell? ⟨X.bb, a * 2, none⟩ = some (.int .i64 (lo a)) := fun z => (HS0.out.below z.prop).bnd.cell (bndC_get lo hi ha (j := 0) (by omega))
   have d1 : ∀ z : Bl W0, z.val.cell? ⟨X.bb, a * 2 + 1, none⟩ = some (.int .i64 (hi a)) := fun z => (HS0.out.below z.prop).bnd.cell (bndC_get lo hi ha (j := 1) (by omega))
   have ha0 : (a : Int) < (X.n : Int) := by omega
   simp only [HE.out.1] at d0
   simp only [HE.out.2] at d1
   change Code.wp _ _ _ _ (Bl.val (⟨W0, Below.refl _ _⟩ : Bl W0))
   generalize (⟨W0, Below.refl _ _⟩ : Bl W0) = z0
   refine wp_region_bl (by kernel_rfl) (by kernel_rfl) ?_
   repeat (go_big_quiet_step (fail))
   refine wpQuiet_nil ?_
   rintro _ ⟨z1, rfl⟩
   go_wp2
   go_ret
   exact ⟨A, oc, rfl, HS0.out.below z1.prop, MvS.of_below (Below.step HB.out z1.prop)⟩
 · simp only [if_neg he, decide_eq_false he, Bool.not_false]
   have q1 : ∀ w : World, (Op.equalIn 10000 112 (.agg #[.int .i64 (lo a), .int .i64 (hi a)]) (.agg #[.int .i64 l, .int .i64 u])).run Tryz.prog w = .ok false w := fun w => by
    rw [eqBnd]
    congr 1
    cases h1 : decide (lo a = l) <;> cases h2 : decide (hi a = u) <;> simp_all
   have HE := Lib.hid he; clear he
   have HS := Lib.hid hS; clear hS
   go_enter Tryz.func75, Tryz.ntmps75
   go_upto_region 1 with (fail)
   generalize hW0 : World.alloc _ _ = W0
   obtain ⟨HB, hh0⟩ := bx1 hW0
   have HX0 : Hid (Own W0 112 w.heap.size [.int .i64 l, .int .i64 u]) := ⟨[], by rw [List.append_nil]; exact hh0⟩
   have HS0 := Lib.hid (HS.out.below HB.out)
   clear hh0 hW0 HS
   have b0 : ∀ z : Bl W0, z.val.cell? ⟨w.heap.size, 0, none⟩ = some (.int .i64 l) := fun z => (HX0.out.below z.prop).cell rfl
   have b1 : ∀ z : Bl W0, z.val.cell? ⟨w.heap.size, 1, none⟩ = some (.int .i64 u) := fun z => (HX0.out.below z.prop).cell rfl
   have s0 : ∀ z : Bl W0, z.val.cell? ⟨X.sb, 0, none⟩ = some (.slice (some ⟨X.bb, 0, none⟩) X.n X.n) := fun z => (HS0.out.below z.prop).box.cell rfl
   have s3 : ∀ z : Bl W0, z.val.cell? ⟨X.sb, 3, none⟩ = some (.slice A H.length oc) := fun z => (HS0.out.below z.prop).box.cell rfl
   have d0 : ∀ z : Bl W0, z.val.cell? ⟨X.bb, a * 2, none⟩ = some (.int .i64 (lo a)) := fun z => (HS0.out.below z.prop).bnd.cell (bndC_get lo hi ha (j := 0) (by omega))
   have d1 : ∀ z : Bl W0, z.val.cell? ⟨X.bb, a * 2 + 1, none⟩ = some (.int .i64 (hi a)) := fun z => (HS0.out.below z.prop).bnd.cell (bndC_get lo hi ha (j := 1) (by omega))
   have ha0 : (a : Int) < (X.n : Int) := by omega
   change Code.wp _ _ _ _ (Bl.val (⟨W0, Below.refl _ _⟩ : Bl W0))
   generalize (⟨W0, Below.refl _ _⟩ : Bl W0) = z0
   refine wp_region_bl (by kernel_rfl) (by kernel_rfl) ?_
   repeat (go_big_quiet_step (fail))
   refine wpQuiet_nil ?_
   rintro _ ⟨z1, rfl⟩
   have HP1 : Hid (Below w.heap.size w z1.val) := Below.step HB.out z1.prop
   have HS1 := Lib.hid (HS0.out.below z1.prop)
   have HX1 := Lib.hid (HX0.out.below z1.prop)
   clear q1 b0 b1 s0 s3 d0 d1 HS0 HX0 HB
   go_upto_region 3 with (fail)
   generalize z1.val = Z at HP1 HS1 HX1 ⊢
   clear z0 z1
   obtain ⟨S, hSd⟩ : ∃ S : Nat → Prop, S = fun b => (Value.slice A H.length oc).ownBlock = some b := ⟨_, rfl⟩
   have HSN : Hid (∀ (t : TypeId) (b : Nat) (cs : List Value), Own Z t b cs → t ≠ 146 → ¬ S b) := fun t b cs ho ht hs => by
    obtain ⟨tl, ho⟩ := ho
    rw [hSd] at hs
    exact ownBlock_ne HS1.out.old ho ht hs
   have HSL : Hid (∀ b, S b → SSet X Z b ∧ b < Z.heap.size) := fun b hs => by
    rw [hSd] at hs
    exact ⟨ownsRow_sset HS1.out.old (Nat.le_refl _) hs, (HS1.out.old.lt b hs).2⟩
   have x0 : ∀ y : Wl (fun z => Upd S Z z), y.val.cell? ⟨X.sb, 0, none⟩ = some (.slice (some ⟨X.bb, 0, none⟩) X.n X.n) := fun y => (HS1.out.box.keep y.prop (HSN.out _ _ _ HS1.out.box (by decide))).cell rfl
   have x3 : ∀ y : Wl (fun z => Upd S Z z), y.val.cell? ⟨X.sb, 3, none⟩ = some (.slice A H.length oc) := fun y => (HS1.out.box.keep y.prop (HSN.out _ _ _ HS1.out.box (by decide))).cell rfl
   have d0 : ∀ y : Wl (fun z => Upd S Z z), y.val.cell? ⟨X.bb, a * 2, none⟩ = some (.int .i64 (lo a)) := fun y => (HS1.out.bnd.keep y.prop (HSN.out _ _ _ HS1.out.bnd (by decide))).cell (bndC_get lo hi ha (j := 0) (by omega))
   have d1 : ∀ y : Wl (fun z => Upd S Z z), y.val.cell? ⟨X.bb, a * 2 + 1, none⟩ = some (.int .i64 (hi a)) := fun y => (HS1.out.bnd.keep y.prop (HSN.out _ _ _ HS1.out.bnd (by decide))).cell (bndC_get lo hi ha (j := 1) (by omega))
   obtain ⟨ii, hii, hiz, his, hib⟩ := info_parts' (P := Tryz.prog) (t := 146) (z := some (.agg #[.int .i64 0, .int .i64 0, .int .i64 0])) (s := 3) (b := 24) (by kernel_rfl)
   haveI : Inhabited (Wl (fun z => Upd S Z z)) := ⟨⟨Z, Upd.refl _ _⟩⟩
   refine wp_region_turn (s := (⟨Z, Below.refl _ _⟩ : Wl (fun z => Below Z.heap.size Z z))) (C1 := fun z => Upd S Z z) (T := Upd S) (f := 15) 16 (fun i => match i with
    | 14 => some (cellSpecT Z 146 #[.int .i64 a, .int .i64 (lo a), .int .i64 (hi a)])
    | 15 => some (appSpec Z X.B 146 3 (H.length + 1) (.slice A H.length oc) (H.flatMap chgC ++ [.int .i64 a, .int .i64 (lo a), .int .i64 (hi a)]))
    | _ => none) (fun i => match i with
    | 15 => [14]
    | _ => []) [14] [] (by simp) (by kernel_rfl) (by kernel_rfl) (by simp) (by simp) (by kernel_rfl) ?bnd ?keeps (turns_upd Z S) ?_
   case bnd =>
    intro p hp o t ho ht
    simp only [List.mem_singleton] at hp
    subst hp
    simp only [List.getElem?_toArray, List.getElem?_cons_succ, List.getElem?_cons_zero, Option.some.injEq] at ho
    subst ho
    simp only [Option.some.injEq] at ht
    subst ht
    simp
   case keeps =>
    intro i sp h
    split at h
    · injection h with h; subst h; exact cellSpecT_keeps _ _ _ _ _ _ (fun k hk => (HSL.out k hk).2)
    · injection h with h; subst h; exact ⟨appSpec_keeps _ _ _ _ _ _ _, fun h => absurd rfl h⟩
    · cases h
   simp only [List.take_succ_cons, List.take_zero, List.drop_succ_cons, List.drop_zero]
   repeat (refine wpT_still rfl (fun K hK => ?_); go_simp; refine hK _ ?_; clear hK K)
   refine wpT_make _ rfl rfl rfl ?_ (fun y _ => ?_) ?_
   · exact ⟨_, Z.heap.size, Nat.le_refl _, rfl⟩
   · go_simp
     refine ⟨⟨_, Nat.le_trans y.prop.size (Nat.le_refl _), rfl⟩, fun b hb => ?_, Below.alloc' (Below.refl _ _) _⟩
     simp only [Value.slice.injEq, Option.some.injEq, Addr.mk.injEq, and_true] at hb
     subst hb
     exact ⟨y.prop.size, heap_alloc_new _ _⟩
   rintro _ ⟨gb, hgb, rfl⟩
   refine wpT_turn _ rfl rfl rfl ?_ (fun y hpre => ?_) ?_
   · exact ⟨_, 0, 0, rfl⟩
   · have hp := hpre 14 (by simp) (cellSpecT Z 146 #[.int .i64 a, .int .i64 (lo a), .int .i64 (hi a)]) rfl _ _ rfl rfl gb rfl
     rw [hSd]
     exact turned_append (P := Tryz.prog) (Z := Z) (z := y.val) (.tmp 20) (.tmp 30) 108 rfl X.B 146 ii (.agg #[.int .i64 0, .int .i64 0, .int .i64 0]) 3 24 Tryz.underlying108 hii hiz his hib rfl (by decide) (.slice A H.length oc) H.length (H.flatMap chgC) rfl (ownsRow_belowX HS1.out.old y.prop) gb #[.int .i64 a, .int .i64 (lo a), .int .i64 (hi a)] 146 (0, 0) rfl hp.2 rfl (by intro u hu; simp only [List.mem_cons, List.not_mem_nil, or_false] at hu; rcases hu with rfl | rfl | rfl <;> rfl) (by unfold maxLen; omega) (by omega) (by have h1 := HS1.out.low.1; have h2 := HS1.out.box.lt; have h3 := y.prop.size; omega) y.prop.size
   rintro _ ⟨g6, c6, rfl⟩
   refine wpT_nil ?_
   rintro y ⟨⟨_, _⟩, hrow, hlie⟩
   have hbox := HS1.out.box.keep y.prop (HSN.out _ _ _ HS1.out.box (by decide))
   have hbnd := HS1.out.bnd.keep y.prop (HSN.out _ _ _ HS1.out.bnd (by decide))
   have hxb := HX1.out.keep y.prop (HSN.out _ _ _ HX1.out (by decide))
   have hsb : X.sb < y.val.heap.size := hbox.lt
   have z3 := x3 y
   have f3 := hbox.frozen 3
   have hmv : MvS X Z (y.val.setCell ⟨X.sb, 3, none⟩ (.slice (some ⟨g6, 0, none⟩) (H.length + 1) c6)) := by
    refine MvS.of_upd (S := fun b => S b ∨ b = X.sb) ((y.prop.mono (fun i _ h => .inl h)).setCell (.inl (.inr rfl)) _) (fun k hk _ => ?_)
    rcases hk with hk | rfl
    · exact (HSL.out k hk).1
    · exact HS1.out.box.sset HS1.out.low.1 (.inl rfl) (.inl rfl)
   have HS3 : Hid (SearchAt (y.val.setCell ⟨X.sb, 3, none⟩ (.slice (some ⟨g6, 0, none⟩) (H.length + 1) c6)) X lo hi (some ⟨g6, 0, none⟩) c6 (H ++ [(a, lo a, hi a)])) := by
    have hl : (H ++ [(a, lo a, hi a)]).length = H.length + 1 := by simp
    have hu2 : Upd (fun b => b = X.sb) y.val (y.val.setCell ⟨X.sb, 3, none⟩ (.slice (some ⟨g6, 0, none⟩) (H.length + 1) c6)) := (Upd.refl (fun b => b = X.sb) y.val).setCell (p := ⟨X.sb, 3, none⟩) (.inl rfl) _
    refine ⟨HS1.out.bef.mvS hmv, HS1.out.aft.mvS hmv, HS1.out.lenB, HS1.out.lenA, ?_, hbnd.keep hu2 (fun e => hbnd.ne hbox (by decide) e), ?_, HS1.out.low⟩
    · rw [hl]
      exact hbox.set (i := 3) (by simp) _
    · rw [hl, show (H ++ [(a, lo a, hi a)]).flatMap chgC = H.flatMap chgC ++ [.int .i64 a, .int .i64 (lo a), .int .i64 (hi a)] by rw [List.flatMap_append]; rfl]
      refine ownsRow_upd hrow hu2 (fun b hb e => ?_)
      subst e
      obtain ⟨tl, hbox⟩ := hbox
      exact ownBlock_ne hrow hbox (by decide) hb
   have HX3 : Hid (Own (y.val.setCell ⟨X.sb, 3, none⟩ (.slice (some ⟨g6, 0, none⟩) (H.length + 1) c6)) 112 w.heap.size [.int .i64 l, .int .i64 u]) :=
    hxb.keep ((Upd.refl (fun b => b = X.sb) y.val).setCell (p := ⟨X.sb, 3, none⟩) (.inl rfl) _) (fun e => hxb.ne hbox (by decide) e)
   have HM3 := Lib.hid ((MvS.of_below HP1.out).trans hmv)
   clear hmv hbox hbnd hxb hrow hlie x0 x3 d0 d1 HS1 HX1 hgb
   gi_wp2
   generalize y.val.setCell ⟨X.sb, 3, none⟩ (.slice (some ⟨g6, 0, none⟩) (H.length + 1) c6) = W3 at HS3 HX3 HM3 ⊢
   clear z3 f3
   have b0 := HX3.out.cell (i := 0) rfl
   have b1 := HX3.out.cell (i := 1) rfl
   have s0 : W3.cell? ⟨X.sb, 0, none⟩ = some (.slice (some ⟨X.bb, 0, none⟩) X.n X.n) := HS3.out.box.cell rfl
   have d0 := HS3.out.bnd.cell (bndC_get lo hi ha (j := 0) (by omega))
   have d1 := HS3.out.bnd.cell (bndC_get lo hi ha (j := 1) (by omega))
   rw [Nat.add_zero] at d0
   have f0 := HS3.out.bnd.frozen (a * 2)
   have f1 := HS3.out.bnd.frozen (a * 2 + 1)
   go_upto_region 4 with (fail)
   refine wp_region_preN 6 (by simp) (by kernel_rfl) (by kernel_rfl) ?_
   simp only [List.take_succ_cons, List.take_zero, List.drop_succ_cons, List.drop_zero]
   repeat (go_big_quiet_step (fail))
   refine wpQuiet_nil ?_
   rintro _ ⟨mq, rfl⟩
   gi_wp2
   have hbd := HS3.out.bnd
   have hbx := HS3.out.box
   have hud : Upd (fun _ => False) W3 (W3.drewN mq) := (Upd.refl _ _).drewN mq
   have hbd2 := ((hbd.keep hud (fun h => h)).set (i := a * 2) (by rw [bndC_len]; omega) (.int .i64 l)).set (i := a * 2 + 1) (by rw [List.length_set, bndC_len]; omega) (.int .i64 u)
   rw [bndC_set lo hi ha] at hbd2
   have hu4 : Upd (fun b => b = X.bb) W3 (((W3.drewN mq).setCell ⟨X.bb, a * 2, none⟩ (.int .i64 l)).setCell ⟨X.bb, a * 2 + 1, none⟩ (.int .i64 u)) :=
    (((Upd.refl (fun b => b = X.bb) W3).drewN mq).setCell (p := ⟨X.bb, a * 2, none⟩) (.inl rfl) _).setCell (p := ⟨X.bb, a * 2 + 1, none⟩) (.inl rfl) _
   have hmv4 : MvS X W3 (((W3.drewN mq).setCell ⟨X.bb, a * 2, none⟩ (.int .i64 l)).setCell ⟨X.bb, a * 2 + 1, none⟩ (.int .i64 u)) :=
    MvS.of_upd hu4 (fun k hk _ => by subst hk; exact hbd.sset HS3.out.low.2 (.inr (.inl rfl)) (.inr (.inl rfl)))
   have HS4 : Hid (SearchAt (((W3.drewN mq).setCell ⟨X.bb, a * 2, none⟩ (.int .i64 l)).setCell ⟨X.bb, a * 2 + 1, none⟩ (.int .i64 u)) X (setAt lo a l) (setAt hi a u) (some ⟨g6, 0, none⟩) c6 (H ++ [(a, lo a, hi a)])) := by
    refine ⟨HS3.out.bef.mvS hmv4, HS3.out.aft.mvS hmv4, HS3.out.lenB, HS3.out.lenA, hbx.keep hu4 (fun e => hbx.ne hbd (by decide) e), hbd2, ownsRow_upd HS3.out.old hu4 (fun b hb e => ?_), HS3.out.low⟩
    subst e
    obtain ⟨tl, hbd⟩ := hbd
    exact ownBlock_ne HS3.out.old hbd (by decide) hb
   have HM4 := Lib.hid (HM3.out.trans hmv4)
   clear hmv4 hu4 hbd2 hud hbx hbd b0 b1 s0 d0 d1 f0 f1 HS3 HX3 HM3
   go_wp2
   go_ret
   exact ⟨_, _, rfl, HS4.out, HM4.out⟩
end Go.Proofs.YtahhdjeclbagnaaGreatDoor
