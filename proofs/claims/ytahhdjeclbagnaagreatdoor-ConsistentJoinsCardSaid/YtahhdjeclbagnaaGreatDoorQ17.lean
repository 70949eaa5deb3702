/-
  CsQ; CtP
-/
import Derived.Test.YtahhdjeclbagnaaGreatDoorQ10
namespace Go.Proofs.YtahhdjeclbagnaaGreatDoor
def KFact.setLow (y : KFact) (v : Int) : KFact := { y with low := v }
def KFact.setHigh (y : KFact) (v : Int) : KFact := { y with high := v }
def stepL (F : List KFact) (p : Nat × Nat) : List KFact := match F[p.1]?, F[p.2]? with
 | some x, some y => F.set p.2 (y.setLow (max y.low x.low))
 | _, _ => F
def stepH (F : List KFact) (p : Nat × Nat) : List KFact := match F[p.1]?, F[p.2]? with
 | some x, some y => F.set p.1 (x.setHigh (min x.high y.high))
 | _, _ => F
theorem stepL_eq {F : List KFact} {p : Nat × Nat} {x y : KFact} (hx : F[p.1]? = some x) (hy : F[p.2]? = some y) : stepL F p = F.set p.2 (y.setLow (max y.low x.low)) := by unfold stepL; rw [hx, hy]
theorem stepH_eq {F : List KFact} {p : Nat × Nat} {x y : KFact} (hx : F[p.1]? = some x) (hy : F[p.2]? = some y) : stepH F p = F.set p.1 (x.setHigh (min x.high y.high)) := by unfold stepH; rw [hx, hy]
def sweep (P : List (Nat × Nat)) (F : List KFact) : List KFact := P.reverse.foldl stepH (P.foldl stepL F)
structure Less (F F' : List KFact) : Prop where
 rest : F'.map KFact.rst = F.map KFact.rst
 le : ∀ (i : Nat) (x x' : KFact), F[i]? = some x → F'[i]? = some x' → x.low ≤ x'.low ∧ x'.high ≤ x.high
theorem Less.refl (F : List KFact) : Less F F := ⟨rfl, fun i x x' h h' => by rw [h] at h'; cases h'; exact ⟨Int.le_refl _, Int.le_refl _⟩⟩
theorem Less.length {F F' : List KFact} (h : Less F F') : F'.length = F.length := by have := congrArg List.length h.rest; simpa using this
theorem Less.get {F F' : List KFact} (h : Less F F') {i : Nat} {x : KFact} (hx : F[i]? = some x) : ∃ x', F'[i]? = some x' ∧ x'.rst = x.rst ∧ x.low ≤ x'.low ∧ x'.high ≤ x.high := by
 have hi : i < F'.length := by rw [h.length]; exact (List.getElem?_eq_some_iff.1 hx).1
 have hx' := List.getElem?_eq_getElem hi
 have hr := congrArg (·[i]?) h.rest
 simp only [List.getElem?_map, hx, hx', Option.map_some, Option.some.injEq] at hr
 exact ⟨_, hx', hr, h.le i x _ hx hx'⟩
theorem Less.back {F F' : List KFact} (h : Less F F') {i : Nat} {x' : KFact} (hx : F'[i]? = some x') : ∃ x, F[i]? = some x ∧ x'.rst = x.rst ∧ x.low ≤ x'.low ∧ x'.high ≤ x.high := by
 have hi : i < F.length := by rw [← h.length]; exact (List.getElem?_eq_some_iff.1 hx).1
 obtain ⟨y, h1, h2⟩ := h.get (List.getElem?_eq_getElem hi)
 rw [hx] at h1
 cases h1
 exact ⟨_, List.getElem?_eq_getElem hi, h2⟩
theorem Less.trans {F G H : List KFact} (h : Less F G) (k : Less G H) : Less F H := ⟨k.rest.trans h.rest, fun i x x' hx hx' => by
 obtain ⟨y, hy, _, h1, h2⟩ := h.get hx
 have := k.le i y x' hy hx'
 omega⟩
theorem less_set {F : List KFact} {i : Nat} {x x' : KFact} (hx : F[i]? = some x) (hr : x'.rst = x.rst) (h1 : x.low ≤ x'.low) (h2 : x'.high ≤ x.high) : Less F (F.set i x') := by
 have hi := (List.getElem?_eq_some_iff.1 hx).1
 refine ⟨?_, fun j y y' hy hy' => ?_⟩
 · apply List.ext_getElem?
   intro j
   rw [List.getElem?_map, List.getElem?_map, List.getElem?_set]
   by_cases e : i = j
   · subst e
     rw [if_pos rfl, if_pos hi, hx]
     simp [hr]
   · rw [if_neg e]
 · rw [List.getElem?_set] at hy'
   by_cases e : i = j
   · subst e
     rw [if_pos rfl, if_pos hi] at hy'
     rw [hx] at hy
     cases hy; cases hy'
     exact ⟨h1, h2⟩
   · rw [if_neg e, hy] at hy'
     cases hy'
     exact ⟨Int.le_refl _, Int.le_refl _⟩
theorem stepL_less (F : List KFact) (p : Nat × Nat) : Less F (stepL F p) := by
 unfold stepL
 split
 · rename_i x y hx hy
   exact less_set hy rfl (by show y.low ≤ max y.low x.low; omega) (Int.le_refl _)
 · exact Less.refl F
theorem stepH_less (F : List KFact) (p : Nat × Nat) : Less F (stepH F p) := by
 unfold stepH
 split
 · rename_i x y hx hy
   exact less_set hx rfl (Int.le_refl _) (by show min x.high y.high ≤ x.high; omega)
 · exact Less.refl F
theorem foldL_less (P : List (Nat × Nat)) (F : List KFact) : Less F (P.foldl stepL F) := by
 induction P generalizing F with
 | nil => exact Less.refl F
 | cons p P ih => exact (stepL_less F p).trans (ih _)
theorem foldH_less (P : List (Nat × Nat)) (F : List KFact) : Less F (P.foldl stepH F) := by
 induction P generalizing F with
 | nil => exact Less.refl F
 | cons p P ih => exact (stepH_less F p).trans (ih _)
theorem sweep_less (P : List (Nat × Nat)) (F : List KFact) : Less F (sweep P F) := (foldL_less P F).trans (foldH_less _ _)
def Keeps2 (P : List (Nat × Nat)) (m : Nat → Int) : Prop := ∀ p ∈ P, m p.1 ≤ m p.2
def LowsTo (m : Nat → Int) (F : List KFact) : Prop := ∀ (i : Nat) (x : KFact), F[i]? = some x → x.low ≤ m i
def HighsTo (m : Nat → Int) (F : List KFact) : Prop := ∀ (i : Nat) (x : KFact), F[i]? = some x → m i ≤ x.high
theorem get_set {F : List KFact} {i : Nat} {x' : KFact} {j : Nat} {y : KFact} (h : (F.set i x')[j]? = some y) : (j = i ∧ y = x') ∨ (j ≠ i ∧ F[j]? = some y) := by
 rw [List.getElem?_set] at h
 by_cases e : i = j
 · subst e
   rw [if_pos rfl] at h
   split at h
   · cases h; exact .inl ⟨rfl, rfl⟩
   · cases h
 · rw [if_neg e] at h
   exact .inr ⟨fun k => e k.symm, h⟩
theorem stepL_lows {m : Nat → Int} {F : List KFact} {p : Nat × Nat} (hp : m p.1 ≤ m p.2) (h : LowsTo m F) : LowsTo m (stepL F p) := by
 unfold stepL
 split
 · rename_i x y hx hy
   intro j z hz
   rcases get_set hz with ⟨rfl, rfl⟩ | ⟨_, hz⟩
   · have h1 := h _ _ hx
     have h2 := h _ _ hy
     show max y.low x.low ≤ _
     omega
   · exact h j z hz
 · exact h
theorem stepL_highs {m : Nat → Int} {F : List KFact} {p : Nat × Nat} (h : HighsTo m F) : HighsTo m (stepL F p) := by
 unfold stepL
 split
 · rename_i x y hx hy
   intro j z hz
   rcases get_set hz with ⟨rfl, rfl⟩ | ⟨_, hz⟩
   · have h1 := h _ _ hy
     exact h1
   · exact h j z hz
 · exact h
theorem stepH_lows {m : Nat → Int} {F : List KFact} {p : Nat × Nat} (h : LowsTo m F) : LowsTo m (stepH F p) := by
 unfold stepH
 split
 · rename_i x y hx hy
   intro j z hz
   rcases get_set hz with ⟨rfl, rfl⟩ | ⟨_, hz⟩
   · have h1 := h _ _ hx
     exact h1
   · exact h j z hz
 · exact h
theorem stepH_highs {m : Nat → Int} {F : List KFact} {p : Nat × Nat} (hp : m p.1 ≤ m p.2) (h : HighsTo m F) : HighsTo m (stepH F p) := by
 unfold stepH
 split
 · rename_i x y hx hy
   intro j z hz
   rcases get_set hz with ⟨rfl, rfl⟩ | ⟨_, hz⟩
   · have h1 := h _ _ hx
     have h2 := h _ _ hy
     show _ ≤ min x.high y.high
     omega
   · exact h j z hz
 · exact h
theorem foldL_lows {m : Nat → Int} : ∀ {P : List (Nat × Nat)} {F : List KFact}, Keeps2 P m → LowsTo m F → LowsTo m (P.foldl stepL F)
 | [], _, _, h => h
 | p :: P, _, hp, h => foldL_lows (P := P) (fun q hq => hp q (List.mem_cons_of_mem _ hq)) (stepL_lows (hp p (by simp)) h)
theorem foldL_highs {m : Nat → Int} : ∀ {P : List (Nat × Nat)} {F : List KFact}, HighsTo m F → HighsTo m (P.foldl stepL F)
 | [], _, h => h
 | _ :: P, _, h => foldL_highs (P := P) (stepL_highs h)
theorem foldH_lows {m : Nat → Int} : ∀ {P : List (Nat × Nat)} {F : List KFact}, LowsTo m F → LowsTo m (P.foldl stepH F)
 | [], _, h => h
 | _ :: P, _, h => foldH_lows (P := P) (stepH_lows h)
theorem foldH_highs {m : Nat → Int} : ∀ {P : List (Nat × Nat)} {F : List KFact}, Keeps2 P m → HighsTo m F → HighsTo m (P.foldl stepH F)
 | [], _, _, h => h
 | p :: P, _, hp, h => foldH_highs (P := P) (fun q hq => hp q (List.mem_cons_of_mem _ hq)) (stepH_highs (hp p (by simp)) h)
theorem Keeps2.reverse {P : List (Nat × Nat)} {m : Nat → Int} (h : Keeps2 P m) : Keeps2 P.reverse m := fun p hp => h p (List.mem_reverse.1 hp)
structure Swept (P : List (Nat × Nat)) (F T : List KFact) : Prop where
 less : Less F T
 lows : ∀ m, Keeps2 P m → LowsTo m F → LowsTo m T
 highs : ∀ m, Keeps2 P m → HighsTo m F → HighsTo m T
theorem Swept.refl (P : List (Nat × Nat)) (F : List KFact) : Swept P F F := ⟨Less.refl F, fun _ _ h => h, fun _ _ h => h⟩
theorem Swept.trans {P : List (Nat × Nat)} {F G H : List KFact} (h : Swept P F G) (k : Swept P G H) : Swept P F H := ⟨h.less.trans k.less, fun m hm x => k.lows m hm (h.lows m hm x), fun m hm x => k.highs m hm (h.highs m hm x)⟩
theorem swept_sweep (P : List (Nat × Nat)) (F : List KFact) : Swept P F (sweep P F) := ⟨sweep_less P F, fun _ hm h => foldH_lows (foldL_lows hm h), fun _ hm h => foldH_highs hm.reverse (foldL_highs h)⟩
theorem foldL_gain {P : List (Nat × Nat)} {F : List KFact} {p : Nat × Nat} (hp : p ∈ P) {x y' : KFact} (hx : F[p.1]? = some x) (hlt : p.2 < F.length) (hy : (P.foldl stepL F)[p.2]? = some y') : x.low ≤ y'.low := by
 obtain ⟨A, B, rfl⟩ := List.append_of_mem hp
 rw [List.foldl_append, List.foldl_cons] at hy
 obtain ⟨x1, h1, _, h2, _⟩ := (foldL_less A F).get hx
 have hl : p.2 < (A.foldl stepL F).length := by rw [(foldL_less A F).length]; exact hlt
 have hy1 := List.getElem?_eq_getElem hl
 generalize (A.foldl stepL F)[p.2] = y1 at hy1
 have hs := stepL_eq h1 hy1
 have hy2 : (stepL (A.foldl stepL F) p)[p.2]? = some (y1.setLow (max y1.low x1.low)) := by rw [hs, List.getElem?_set, if_pos rfl, if_pos hl]
 have h3 := ((foldL_less B _).le _ _ _ hy2 hy).1
 have h4 : max y1.low x1.low ≤ y'.low := h3
 omega
theorem foldH_gain {P : List (Nat × Nat)} {F : List KFact} {p : Nat × Nat} (hp : p ∈ P) {y x' : KFact} (hy : F[p.2]? = some y) (hlt : p.1 < F.length) (hx : (P.foldl stepH F)[p.1]? = some x') : x'.high ≤ y.high := by
 obtain ⟨A, B, rfl⟩ := List.append_of_mem hp
 rw [List.foldl_append, List.foldl_cons] at hx
 obtain ⟨y1, h1, _, _, h2⟩ := (foldH_less A F).get hy
 have hl : p.1 < (A.foldl stepH F).length := by rw [(foldH_less A F).length]; exact hlt
 have hx1 := List.getElem?_eq_getElem hl
 generalize (A.foldl stepH F)[p.1] = x1 at hx1
 have hs := stepH_eq hx1 h1
 have hx2 : (stepH (A.foldl stepH F) p)[p.1]? = some (x1.setHigh (min x1.high y1.high)) := by rw [hs, List.getElem?_set, if_pos rfl, if_pos hl]
 have h3 := ((foldH_less B _).le _ _ _ hx2 hx).2
 have h4 : x'.high ≤ min x1.high y1.high := h3
 omega
def gap (M m : Int) (F : List KFact) : Nat := (F.map (fun x => (M - x.low).toNat + (x.high - m).toNat)).sum
def LessAt (F F' : List KFact) : Prop := ∀ (i : Nat) (x x' : KFact), F[i]? = some x → F'[i]? = some x' → x.low ≤ x'.low ∧ x'.high ≤ x.high
theorem gap_le {M m : Int} : ∀ {F F' : List KFact}, F.length = F'.length → LessAt F F' → gap M m F' ≤ gap M m F
 | [], [], _, _ => Nat.le_refl _
 | [], _ :: _, h, _ => by simp at h
 | _ :: _, [], h, _ => by simp at h
 | x :: F, x' :: F', hl, h => by
  have h1 := h 0 x x' rfl rfl
  have h2 := gap_le (M := M) (m := m) (F := F) (F' := F') (by simpa using hl) (fun i y y' hy hy' => h (i + 1) y y' hy hy')
  unfold gap at h2 ⊢
  simp only [List.map_cons, List.sum_cons]
  omega
theorem gap_lt {M m : Int} : ∀ {F F' : List KFact}, F.length = F'.length → LessAt F F' → (∀ x' ∈ F', x'.low ≤ M ∧ m ≤ x'.high) → (∃ (i : Nat) (x x' : KFact), F[i]? = some x ∧ F'[i]? = some x' ∧ (x.low < x'.low ∨ x'.high < x.high)) → gap M m F' < gap M m F
 | [], [], _, _, _, ⟨i, x, x', h, _⟩ => by simp at h
 | [], _ :: _, h, _, _, _ => by simp at h
 | _ :: _, [], h, _, _, _ => by simp at h
 | x :: F, x' :: F', hl, h, hb, ⟨i, y, y', hy, hy', hlt⟩ => by
  have h1 := h 0 x x' rfl rfl
  have hl' : F.length = F'.length := by simpa using hl
  have hr : LessAt F F' := fun i y y' hy hy' => h (i + 1) y y' hy hy'
  have hbx := hb x' (by simp)
  cases i with
  | zero =>
   simp only [List.getElem?_cons_zero, Option.some.injEq] at hy hy'
   subst hy hy'
   have h2 := gap_le (M := M) (m := m) hl' hr
   unfold gap at h2 ⊢
   simp only [List.map_cons, List.sum_cons]
   omega
  | succ i =>
   have h2 := gap_lt (M := M) (m := m) hl' hr (fun x hx => hb x (List.mem_cons_of_mem _ hx)) ⟨i, y, y', by simpa using hy, by simpa using hy', hlt⟩
   unfold gap at h2 ⊢
   simp only [List.map_cons, List.sum_cons]
   omega
theorem bounds_of (F : List KFact) : ∃ M m : Int, ∀ x ∈ F, x.low ≤ M ∧ m ≤ x.high := by
 induction F with
 | nil => exact ⟨0, 0, by simp⟩
 | cons x F ih =>
  obtain ⟨M, m, h⟩ := ih
  refine ⟨max M x.low, min m x.high, fun y hy => ?_⟩
  rcases List.mem_cons.1 hy with rfl | hy
  · omega
  · have := h y hy; omega
theorem Swept.bounded {P : List (Nat × Nat)} {F T : List KFact} {M m : Int} (h : Swept P F T) (hb : ∀ x ∈ F, x.low ≤ M ∧ m ≤ x.high) : ∀ x ∈ T, x.low ≤ M ∧ m ≤ x.high := fun x hx => by
 obtain ⟨i, hi⟩ := List.mem_iff_getElem?.1 hx
 exact ⟨h.lows (fun _ => M) (fun _ _ => Int.le_refl _) (fun j y hy => (hb y (List.mem_of_getElem? hy)).1) i x hi, h.highs (fun _ => m) (fun _ _ => Int.le_refl _) (fun j y hy => (hb y (List.mem_of_getElem? hy)).2) i x hi⟩
theorem sweep_gap {P : List (Nat × Nat)} {F : List KFact} {M m : Int} (hb : ∀ x ∈ F, x.low ≤ M ∧ m ≤ x.high) {p : Nat × Nat} (hp : p ∈ P) {x y : KFact} (hx : F[p.1]? = some x) (hy : F[p.2]? = some y) (h : y.low < x.low ∨ y.high < x.high) : gap M m (sweep P F) < gap M m F := by
 have hs := swept_sweep P F
 refine gap_lt hs.less.length.symm hs.less.le (hs.bounded hb) ?_
 have h1 := (List.getElem?_eq_some_iff.1 hx).1
 have h2 := (List.getElem?_eq_some_iff.1 hy).1
 have hl := (foldL_less P F).length
 rcases h with h | h
 · obtain ⟨y1, k1, _, k2, _⟩ := (foldL_less P F).get hy
   have k3 := foldL_gain hp hx h2 k1
   obtain ⟨y2, k4, _, k5, _⟩ := (foldH_less P.reverse (P.foldl stepL F)).get k1
   exact ⟨p.2, y, y2, hy, k4, .inl (by omega)⟩
 · obtain ⟨y1, k1, _, _, k2⟩ := (foldL_less P F).get hy
   obtain ⟨x1, k3, _, _, k4⟩ := (foldL_less P F).get hx
   obtain ⟨x2, k5, _, _, k6⟩ := (foldH_less P.reverse (P.foldl stepL F)).get k3
   have k7 := foldH_gain (List.mem_reverse.2 hp) k1 (by rw [hl]; exact h1) k5
   exact ⟨p.1, x, x2, hx, k5, .inr (by omega)⟩
theorem Less.ref {F T : List KFact} (h : Less F T) {i : Nat} {x t : KFact} (hx : F[i]? = some x) (ht : T[i]? = some t) : t.ref = x.ref := by
 obtain ⟨t', h1, h2, _⟩ := h.get hx
 rw [ht] at h1
 cases h1
 exact rst_ref h2
theorem Less.refs {F T : List KFact} (h : Less F T) : T.map (·.ref) = F.map (·.ref) := by
 have := congrArg (List.map (·.1)) h.rest
 rw [List.map_map, List.map_map] at this
 exact this
theorem mem_pairs {F : List KFact} {O : List KBef} {b : KBef} (hb : b ∈ O) : (idxOf F b.ref, idxOf F b.next) ∈ pairsOf F O := List.mem_map.2 ⟨b, hb, rfl⟩
theorem Swept.tight {F T : List KFact} {O : List KBef} (h : Swept (pairsOf F O) F T) (hd : Distinct F) (hk : Known F O) (hc : ∀ p ∈ pairsOf F O, ∀ x y, T[p.1]? = some x → T[p.2]? = some y → x.low ≤ y.low ∧ x.high ≤ y.high) : Tight F T O := by
 have hdT : Distinct T := by unfold Distinct; rw [h.less.refs]; exact hd
 have at' : ∀ {f t : KFact} {i : Nat}, F[i]? = some f → t ∈ T → f.ref = t.ref → T[i]? = some t := fun {f t i} hf ht e => by
  obtain ⟨t', h1, h2, _⟩ := h.less.get hf
  have e2 : t' = t := map_pairwise_unique hdT t' (List.mem_of_getElem? h1) t ht ((rst_ref h2).trans e)
  rw [← e2]; exact h1
 have clo : ∀ b ∈ O, ∀ s ∈ T, ∀ t ∈ T, s.ref = b.ref → t.ref = b.next → s.low ≤ t.low ∧ s.high ≤ t.high := fun b hb s hs t ht e1 e2 => by
  obtain ⟨⟨x, hx, h1⟩, y, hy, h2⟩ := hk b hb
  obtain ⟨i, hi⟩ := List.mem_iff_getElem?.1 hx
  obtain ⟨j, hj⟩ := List.mem_iff_getElem?.1 hy
  have q := hc _ (mem_pairs (F := F) hb) s t
  rw [← h1, ← h2, idxOf_get hd hi, idxOf_get hd hj] at q
  exact q (at' hi hs (h1.trans e1.symm)) (at' hj ht (h2.trans e2.symm))
 have keeps : ∀ m : Int → Int, (∀ b ∈ O, m b.ref ≤ m b.next) → Keeps2 (pairsOf F O) (fun i => m ((F.map (·.ref)).getD i 0)) := fun m hm p hp => by
  obtain ⟨b, hb, rfl⟩ := List.mem_map.1 hp
  obtain ⟨⟨x, hx, h1⟩, y, hy, h2⟩ := hk b hb
  obtain ⟨i, hi⟩ := List.mem_iff_getElem?.1 hx
  obtain ⟨j, hj⟩ := List.mem_iff_getElem?.1 hy
  show m ((F.map (·.ref)).getD (idxOf F b.ref) 0) ≤ m ((F.map (·.ref)).getD (idxOf F b.next) 0)
  rw [← h1, ← h2, idxOf_get hd hi, idxOf_get hd hj, getD_map hi, getD_map hj, h1, h2]
  exact hm b hb
 refine ⟨h.less.rest, fun f hf t ht e => ?_, fun f hf t ht e => ?_, fun b hb s hs t ht e1 e2 => (clo b hb s hs t ht e1 e2).1, fun b hb s hs t ht e1 e2 => (clo b hb s hs t ht e1 e2).2, fun m hm hc t ht => ?_, fun m hm hc t ht => ?_⟩
 · obtain ⟨i, hi⟩ := List.mem_iff_getElem?.1 hf
   exact (h.less.le i f t hi (at' hi ht e)).1
 · obtain ⟨i, hi⟩ := List.mem_iff_getElem?.1 hf
   exact (h.less.le i f t hi (at' hi ht e)).2
 · obtain ⟨i, hi⟩ := List.mem_iff_getElem?.1 ht
   obtain ⟨x, hx, hr, _⟩ := h.less.back hi
   have q := h.lows _ (keeps m hc) (fun j y hy => by show _ ≤ m _; rw [getD_map hy]; exact hm y (List.mem_of_getElem? hy)) i t hi
   simp only at q
   rw [getD_map hx, ← rst_ref hr] at q
   exact q
 · obtain ⟨i, hi⟩ := List.mem_iff_getElem?.1 ht
   obtain ⟨x, hx, hr, _⟩ := h.less.back hi
   have q := h.highs _ (keeps m hc) (fun j y hy => by show m _ ≤ _; rw [getD_map hy]; exact hm y (List.mem_of_getElem? hy)) i t hi
   simp only at q
   rw [getD_map hx, ← rst_ref hr] at q
   exact q
end Go.Proofs.YtahhdjeclbagnaaGreatDoor
namespace Go.Proofs.YtahhdjeclbagnaaGreatDoor
def allL : Nat → (Nat → Int) → (Nat → Int) → List (List Int)
 | 0, _, _ => [[]]
 | n + 1, lo, hi => (List.range (hi 0 + 1 - lo 0).toNat).flatMap (fun j : Nat => (allL n (fun i => lo (i + 1)) (fun i => hi (i + 1))).map (fun l => (lo 0 + (j : Int)) :: l))
theorem allL_mem : ∀ (n : Nat) (lo hi : Nat → Int) (l : List Int), l ∈ allL n lo hi ↔ l.length = n ∧ ∀ i, i < n → lo i ≤ l.getD i 0 ∧ l.getD i 0 ≤ hi i
 | 0, lo, hi, l => by
  unfold allL
  rw [List.mem_singleton]
  constructor
  · rintro rfl; exact ⟨rfl, fun i hi' => absurd hi' (Nat.not_lt_zero _)⟩
  · rintro ⟨h, _⟩; exact List.eq_nil_of_length_eq_zero h
 | n + 1, lo, hi, l => by
  unfold allL
  simp only [List.mem_flatMap, List.mem_range, List.mem_map]
  constructor
  · rintro ⟨j, hj, m, hm, rfl⟩
    obtain ⟨h1, h2⟩ := (allL_mem n _ _ m).1 hm
    refine ⟨by simp [h1], fun i hi' => ?_⟩
    cases i with
    | zero => simp only [List.getD_cons_zero]; omega
    | succ i => simpa using h2 i (by omega)
  · rintro ⟨h1, h2⟩
    cases l with
    | nil => simp at h1
    | cons a l =>
     have h0 := h2 0 (by omega)
     simp only [List.getD_cons_zero] at h0
     refine ⟨(a - lo 0).toNat, by omega, l, (allL_mem n _ _ l).2 ⟨by simpa using h1, fun i hi' => by simpa using h2 (i + 1) (by omega)⟩, ?_⟩
     rw [show lo 0 + ((a - lo 0).toNat : Int) = a by omega]
theorem allL_sorted : ∀ (n : Nat) (lo hi : Nat → Int), (allL n lo hi).Pairwise lexLt
 | 0, lo, hi => by unfold allL; simp
 | n + 1, lo, hi => by
  unfold allL
  rw [List.pairwise_flatMap]
  refine ⟨fun j _ => ?_, ?_⟩
  · rw [List.pairwise_map]
    exact (allL_sorted n _ _).imp (fun h => .inr ⟨rfl, h⟩)
  · refine (List.pairwise_lt_range).imp (fun {i j} h x hx y hy => ?_)
    obtain ⟨l, _, rfl⟩ := List.mem_map.1 hx
    obtain ⟨m, _, rfl⟩ := List.mem_map.1 hy
    exact .inl (by omega)
theorem IsEnum.ex (n : Nat) (lo hi : Nat → Int) (P : List (Nat × Nat)) : ∃ Y, IsEnum n lo hi P Y := by
 refine ⟨(allL n lo hi).filter (fun l => P.all (fun p => decide (l.getD p.1 0 ≤ l.getD p.2 0))), (allL_sorted n lo hi).filter _, fun l => ?_⟩
 rw [List.mem_filter, allL_mem]
 simp only [List.all_eq_true, decide_eq_true_eq]
 constructor
 · rintro ⟨⟨h1, h2⟩, h3⟩
   exact ⟨h1, fun i hi' => (h2 i hi').1, fun i hi' => (h2 i hi').2, h3⟩
 · rintro ⟨h1, h2⟩
   exact ⟨⟨h1, fun i hi' => ⟨h2.lo i hi', h2.hi i hi'⟩⟩, h2.ord⟩
theorem nodup_sub_len {α : Type} [DecidableEq α] : ∀ {l m : List α}, l.Nodup → (∀ x ∈ l, x ∈ m) → l.length ≤ m.length
 | [], _, _, _ => Nat.zero_le _
 | a :: l, m, hd, h => by
  have h1 := List.nodup_cons.1 hd
  have h2 := nodup_sub_len (l := l) (m := m.erase a) h1.2 (fun x hx => (List.mem_erase_of_ne (fun e => h1.1 (by rw [← e]; exact hx))).2 (h x (List.mem_cons_of_mem _ hx)))
  have h3 := h a (by simp)
  rw [List.length_erase_of_mem h3] at h2
  have h4 : 0 < m.length := List.length_pos_of_mem h3
  simp only [List.length_cons]
  omega
theorem lexLt_irrefl : ∀ l : List Int, ¬ lexLt l l
 | [], h => h.elim
 | a :: l, h => by
  rcases h with h | ⟨_, h⟩
  · omega
  · exact lexLt_irrefl l h
theorem EnumTo.len {n : Nat} {lo hi : Nat → Int} {P : List (Nat × Nat)} {k : Nat} {v : Int} {Y Z : List (List Int)} (h : EnumTo n lo hi P k v Y) (hZ : IsEnum n lo hi P Z) : Y.length ≤ Z.length := by
 refine nodup_sub_len (h.sorted.imp (fun {a b} hab e => ?_)) (fun x hx => (hZ.mem x).2 ((h.mem x).1 hx).1)
 subst e
 exact lexLt_irrefl _ hab
end Go.Proofs.YtahhdjeclbagnaaGreatDoor
