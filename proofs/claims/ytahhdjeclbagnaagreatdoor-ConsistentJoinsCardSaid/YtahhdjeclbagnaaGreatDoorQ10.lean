/-
  CsP
-/
namespace Go.Proofs.YtahhdjeclbagnaaGreatDoor
structure KFact where
 ref : Int
 act : Int
 low : Int
 high : Int
 filed : Int
 secret : Bool
structure KBef where
 ref : Int
 next : Int
structure KFile where
 house : Int
 facts : List KFact
 orders : List KBef
def mergeF (y x : KFact) : KFact := { y with low := max y.low x.low, high := min y.high x.high, filed := min y.filed x.filed, secret := y.secret && x.secret }
def lookStep (r : Int) (o : Option KFact) (x : KFact) : Option KFact := if x.ref = r then some (match o with | none => x | some y => mergeF y x) else o
def look (L : List KFact) (r : Int) : Option KFact := L.foldl (lookStep r) none
theorem look_snoc (L : List KFact) (x : KFact) (r : Int) : look (L ++ [x]) r = lookStep r (look L r) x := by unfold look; rw [List.foldl_append]; rfl
theorem look_nil (r : Int) : look [] r = none := rfl
def SameP (L : List KFact) : Prop := ∀ x ∈ L, ∀ y ∈ L, x.ref = y.ref → x.act = y.act
structure IsLook (L : List KFact) (r : Int) (z : KFact) : Prop where
 ref : z.ref = r
 act : ∃ x ∈ L, x.ref = r ∧ x.act = z.act
 low : ∃ x ∈ L, x.ref = r ∧ x.low = z.low
 lows : ∀ x ∈ L, x.ref = r → x.low ≤ z.low
 high : ∃ x ∈ L, x.ref = r ∧ x.high = z.high
 highs : ∀ x ∈ L, x.ref = r → z.high ≤ x.high
 filed : ∃ x ∈ L, x.ref = r ∧ x.filed = z.filed
 fileds : ∀ x ∈ L, x.ref = r → z.filed ≤ x.filed
 sec : z.secret = true ↔ ∀ x ∈ L, x.ref = r → x.secret = true
theorem snocInd {α : Type} {P : List α → Prop} (h0 : P []) (h1 : ∀ l a, P l → P (l ++ [a])) (l : List α) : P l := by
 have h : ∀ k : List α, P k.reverse := fun k => by
  induction k with
  | nil => exact h0
  | cons a k ih => rw [List.reverse_cons]; exact h1 _ _ ih
 have := h l.reverse
 rwa [List.reverse_reverse] at this
theorem isLook_one (x : KFact) (r : Int) (h : x.ref = r) (L : List KFact) (hL : ∀ y ∈ L, y.ref ≠ r) : IsLook (L ++ [x]) r x := by
 have hm : ∀ y ∈ L ++ [x], y.ref = r → y = x := fun y hy e => by
  rcases List.mem_append.1 hy with h1 | h1
  · exact absurd e (hL y h1)
  · exact List.mem_singleton.1 h1
 have hx : x ∈ L ++ [x] := by simp
 exact ⟨h, ⟨x, hx, h, rfl⟩, ⟨x, hx, h, rfl⟩, fun y hy e => by rw [hm y hy e]; exact Int.le_refl _, ⟨x, hx, h, rfl⟩, fun y hy e => by rw [hm y hy e]; exact Int.le_refl _, ⟨x, hx, h, rfl⟩, fun y hy e => by rw [hm y hy e]; exact Int.le_refl _, ⟨fun e y hy f => by rw [hm y hy f]; exact e, fun e => e x hx h⟩⟩
theorem isLook_more {L : List KFact} {r : Int} {z : KFact} (h : IsLook L r z) (x : KFact) (e : x.ref = r) : IsLook (L ++ [x]) r (mergeF z x) := by
 have hx : x ∈ L ++ [x] := by simp
 have hl : ∀ {y}, y ∈ L → y ∈ L ++ [x] := fun hy => List.mem_append.2 (.inl hy)
 refine ⟨h.ref, ?_, ?_, ?_, ?_, ?_, ?_, ?_, ?_⟩
 · obtain ⟨y, h1, h2, h3⟩ := h.act; exact ⟨y, hl h1, h2, h3⟩
 · show ∃ y ∈ L ++ [x], y.ref = r ∧ y.low = max z.low x.low
   by_cases c : z.low ≤ x.low
   · exact ⟨x, hx, e, by omega⟩
   · obtain ⟨y, h1, h2, h3⟩ := h.low; exact ⟨y, hl h1, h2, by omega⟩
 · intro y hy f
   show y.low ≤ max z.low x.low
   rcases List.mem_append.1 hy with h1 | h1
   · have := h.lows y h1 f; omega
   · rw [List.mem_singleton.1 h1]; omega
 · show ∃ y ∈ L ++ [x], y.ref = r ∧ y.high = min z.high x.high
   by_cases c : x.high ≤ z.high
   · exact ⟨x, hx, e, by omega⟩
   · obtain ⟨y, h1, h2, h3⟩ := h.high; exact ⟨y, hl h1, h2, by omega⟩
 · intro y hy f
   show min z.high x.high ≤ y.high
   rcases List.mem_append.1 hy with h1 | h1
   · have := h.highs y h1 f; omega
   · rw [List.mem_singleton.1 h1]; omega
 · show ∃ y ∈ L ++ [x], y.ref = r ∧ y.filed = min z.filed x.filed
   by_cases c : x.filed ≤ z.filed
   · exact ⟨x, hx, e, by omega⟩
   · obtain ⟨y, h1, h2, h3⟩ := h.filed; exact ⟨y, hl h1, h2, by omega⟩
 · intro y hy f
   show min z.filed x.filed ≤ y.filed
   rcases List.mem_append.1 hy with h1 | h1
   · have := h.fileds y h1 f; omega
   · rw [List.mem_singleton.1 h1]; omega
 · show (z.secret && x.secret) = true ↔ _
   rw [Bool.and_eq_true, h.sec]
   constructor
   · rintro ⟨h1, h2⟩ y hy f
     rcases List.mem_append.1 hy with h3 | h3
     · exact h1 y h3 f
     · rw [List.mem_singleton.1 h3]; exact h2
   · exact fun h1 => ⟨fun y hy f => h1 y (hl hy) f, h1 x hx e⟩
theorem isLook_skip {L : List KFact} {r : Int} {z : KFact} (h : IsLook L r z) (x : KFact) (e : x.ref ≠ r) : IsLook (L ++ [x]) r z := by
 have hl : ∀ {y}, y ∈ L → y ∈ L ++ [x] := fun hy => List.mem_append.2 (.inl hy)
 have hm : ∀ {y}, y ∈ L ++ [x] → y.ref = r → y ∈ L := fun {y} hy f => by
  rcases List.mem_append.1 hy with h3 | h3
  · exact h3
  · rw [List.mem_singleton.1 h3] at f; exact absurd f e
 have ex : ∀ {p : KFact → Prop}, (∃ y ∈ L, y.ref = r ∧ p y) → ∃ y ∈ L ++ [x], y.ref = r ∧ p y := fun ⟨y, h1, h2⟩ => ⟨y, hl h1, h2⟩
 exact ⟨h.ref, ex h.act, ex h.low, fun y hy f => h.lows y (hm hy f) f, ex h.high, fun y hy f => h.highs y (hm hy f) f, ex h.filed, fun y hy f => h.fileds y (hm hy f) f, h.sec.trans ⟨fun k y hy f => k y (hm hy f) f, fun k y hy f => k y (hl hy) f⟩⟩
theorem look_is (L : List KFact) (r : Int) : (look L r = none ∧ ∀ x ∈ L, x.ref ≠ r) ∨ ∃ z, look L r = some z ∧ IsLook L r z := by
 induction L using snocInd with
 | h0 => exact .inl ⟨rfl, fun x h => by cases h⟩
 | h1 L x ih =>
  rw [look_snoc]
  unfold lookStep
  by_cases e : x.ref = r
  · rw [if_pos e]
    rcases ih with ⟨h1, h2⟩ | ⟨z, h1, h2⟩
    · rw [h1]; exact .inr ⟨x, rfl, isLook_one x r e L h2⟩
    · rw [h1]; exact .inr ⟨_, rfl, isLook_more h2 x e⟩
  · rw [if_neg e]
    rcases ih with ⟨h1, h2⟩ | ⟨z, h1, h2⟩
    · refine .inl ⟨h1, fun y hy => ?_⟩
      rcases List.mem_append.1 hy with h3 | h3
      · exact h2 y h3
      · rw [List.mem_singleton.1 h3]; exact e
    · exact .inr ⟨z, h1, isLook_skip h2 x e⟩
theorem IsLook.eq {L L' : List KFact} {r : Int} {z z' : KFact} (h : IsLook L r z) (h' : IsLook L' r z') (hs : SameP L) (hm : ∀ x, x ∈ L ↔ x ∈ L') : z = z' := by
 obtain ⟨r1, a1, l1, g1, f1, s1⟩ := z
 obtain ⟨r2, a2, l2, g2, f2, s2⟩ := z'
 have e1 : r1 = r2 := h.ref.trans h'.ref.symm
 have e2 : a1 = a2 := by
  obtain ⟨x, hx, hr, ha⟩ := h.act
  obtain ⟨y, hy, hr', ha'⟩ := h'.act
  rw [show a1 = x.act from ha.symm, show a2 = y.act from ha'.symm]
  exact hs x hx y ((hm y).2 hy) (hr.trans hr'.symm)
 have e3 : l1 = l2 := by
  obtain ⟨x, hx, hr, ha⟩ := h.low
  obtain ⟨y, hy, hr', ha'⟩ := h'.low
  have b1 := h'.lows x ((hm x).1 hx) hr
  have b2 := h.lows y ((hm y).2 hy) hr'
  simp only at ha ha' b1 b2
  omega
 have e4 : g1 = g2 := by
  obtain ⟨x, hx, hr, ha⟩ := h.high
  obtain ⟨y, hy, hr', ha'⟩ := h'.high
  have b1 := h'.highs x ((hm x).1 hx) hr
  have b2 := h.highs y ((hm y).2 hy) hr'
  simp only at ha ha' b1 b2
  omega
 have e5 : f1 = f2 := by
  obtain ⟨x, hx, hr, ha⟩ := h.filed
  obtain ⟨y, hy, hr', ha'⟩ := h'.filed
  have b1 := h'.fileds x ((hm x).1 hx) hr
  have b2 := h.fileds y ((hm y).2 hy) hr'
  simp only at ha ha' b1 b2
  omega
 have e6 : s1 = s2 := by
  rw [Bool.eq_iff_iff]
  have b1 := h.sec
  have b2 := h'.sec
  simp only at b1 b2
  rw [b1, b2]
  exact ⟨fun k x hx hr => k x ((hm x).2 hx) hr, fun k x hx hr => k x ((hm x).1 hx) hr⟩
 subst e1 e2 e3 e4 e5 e6
 rfl
theorem look_congr {L L' : List KFact} (hs : SameP L) (hm : ∀ x, x ∈ L ↔ x ∈ L') (r : Int) : look L r = look L' r := by
 rcases look_is L r with ⟨h1, h2⟩ | ⟨z, h1, h2⟩
 · rcases look_is L' r with ⟨h3, _⟩ | ⟨z', _, h4⟩
   · rw [h1, h3]
   · obtain ⟨x, hx, hr, _⟩ := h4.act
     exact absurd hr (h2 x ((hm x).2 hx))
 · rcases look_is L' r with ⟨_, h4⟩ | ⟨z', h3, h4⟩
   · obtain ⟨x, hx, hr, _⟩ := h2.act
     exact absurd hr (h4 x ((hm x).1 hx))
   · rw [h1, h3, h2.eq h4 hs hm]
theorem grows_unique {α : Type} {lt : α → α → Prop} (irr : ∀ a, ¬ lt a a) (tr : ∀ a b c, lt a b → lt b c → lt a c) : ∀ {l l' : List α}, l.Pairwise lt → l'.Pairwise lt → (∀ x, x ∈ l ↔ x ∈ l') → l = l'
 | [], [], _, _, _ => rfl
 | [], b :: l', _, _, h => absurd ((h b).2 (by simp)) (by simp)
 | a :: l, [], _, _, h => absurd ((h a).1 (by simp)) (by simp)
 | a :: l, b :: l', h1, h2, h => by
  rw [List.pairwise_cons] at h1 h2
  have e : a = b := by
   rcases List.mem_cons.1 ((h a).1 (by simp)) with e | e
   · exact e
   · rcases List.mem_cons.1 ((h b).2 (by simp)) with e2 | e2
     · exact e2.symm
     · exact absurd (tr _ _ _ (h1.1 b e2) (h2.1 a e)) (irr a)
  subst e
  rw [grows_unique irr tr h1.2 h2.2 (fun x => ⟨fun hx => by
   rcases List.mem_cons.1 ((h x).1 (List.mem_cons_of_mem _ hx)) with e | e
   · subst e; exact absurd (h1.1 x hx) (irr x)
   · exact e, fun hx => by
   rcases List.mem_cons.1 ((h x).2 (List.mem_cons_of_mem _ hx)) with e | e
   · subst e; exact absurd (h2.1 x hx) (irr x)
   · exact e⟩)]
def insK (r : Int) : List Int → List Int
 | [] => [r]
 | k :: l => if r < k then r :: k :: l else if r = k then k :: l else k :: insK r l
theorem insK_mem (r : Int) : ∀ (l : List Int) (x : Int), x ∈ insK r l ↔ x = r ∨ x ∈ l
 | [], x => by simp [insK]
 | k :: l, x => by
  unfold insK
  by_cases h : r < k
  · rw [if_pos h]; simp
  · rw [if_neg h]
    by_cases h2 : r = k
    · rw [if_pos h2]; subst h2; simp
    · rw [if_neg h2, List.mem_cons, insK_mem r l x, List.mem_cons]
      constructor
      · rintro (h3 | h3 | h3)
        · exact .inr (.inl h3)
        · exact .inl h3
        · exact .inr (.inr h3)
      · rintro (h3 | h3 | h3)
        · exact .inr (.inl h3)
        · exact .inl h3
        · exact .inr (.inr h3)
theorem insK_sorted (r : Int) : ∀ (l : List Int), l.Pairwise (· < ·) → (insK r l).Pairwise (· < ·)
 | [], _ => by simp [insK]
 | k :: l, h => by
  unfold insK
  rw [List.pairwise_cons] at h
  by_cases h1 : r < k
  · rw [if_pos h1, List.pairwise_cons, List.pairwise_cons]
    refine ⟨fun x hx => ?_, h.1, h.2⟩
    rcases List.mem_cons.1 hx with e | e
    · subst e; exact h1
    · exact Int.lt_trans h1 (h.1 x e)
  · rw [if_neg h1]
    by_cases h2 : r = k
    · rw [if_pos h2, List.pairwise_cons]; exact h
    · rw [if_neg h2, List.pairwise_cons]
      refine ⟨fun x hx => ?_, insK_sorted r l h.2⟩
      rcases (insK_mem r l x).1 hx with e | e
      · omega
      · exact h.1 x e
def keysOf (L : List KFact) : List Int := L.foldl (fun k x => insK x.ref k) []
theorem keysOf_snoc (L : List KFact) (x : KFact) : keysOf (L ++ [x]) = insK x.ref (keysOf L) := by unfold keysOf; rw [List.foldl_append]; rfl
theorem keysOf_sorted (L : List KFact) : (keysOf L).Pairwise (· < ·) := by
 induction L using snocInd with
 | h0 => exact List.Pairwise.nil
 | h1 L x ih => rw [keysOf_snoc]; exact insK_sorted _ _ ih
theorem keysOf_mem (L : List KFact) (r : Int) : r ∈ keysOf L ↔ ∃ x ∈ L, x.ref = r := by
 induction L using snocInd with
 | h0 => simp [keysOf]
 | h1 L x ih =>
  rw [keysOf_snoc, insK_mem, ih]
  constructor
  · rintro (h | ⟨y, h1, h2⟩)
    · exact ⟨x, by simp, h.symm⟩
    · exact ⟨y, List.mem_append.2 (.inl h1), h2⟩
  · rintro ⟨y, h1, h2⟩
    rcases List.mem_append.1 h1 with h3 | h3
    · exact .inr ⟨y, h3, h2⟩
    · rw [List.mem_singleton.1 h3] at h2; exact .inl h2.symm
theorem keys_unique {L : List KFact} {K : List Int} (h : K.Pairwise (· < ·)) (hm : ∀ r, r ∈ K ↔ ∃ x ∈ L, x.ref = r) : K = keysOf L :=
 grows_unique (fun a h => Int.lt_irrefl a h) (fun _ _ _ => Int.lt_trans) h (keysOf_sorted L) (fun r => (hm r).trans (keysOf_mem L r).symm)
theorem keysOf_congr {L L' : List KFact} (hm : ∀ x, x ∈ L ↔ x ∈ L') : keysOf L = keysOf L' :=
 keys_unique (keysOf_sorted L) (fun r => (keysOf_mem L r).trans ⟨fun ⟨x, h1, h2⟩ => ⟨x, (hm x).1 h1, h2⟩, fun ⟨x, h1, h2⟩ => ⟨x, (hm x).2 h1, h2⟩⟩)
def joinedF (L : List KFact) : List KFact := (keysOf L).filterMap (look L)
theorem look_some {L : List KFact} {r : Int} (h : r ∈ keysOf L) : ∃ z, look L r = some z ∧ IsLook L r z := by
 rcases look_is L r with ⟨_, h2⟩ | h2
 · obtain ⟨x, hx, hr⟩ := (keysOf_mem L r).1 h
   exact absurd hr (h2 x hx)
 · exact h2
theorem filterMap_refs {L : List KFact} : ∀ {K : List Int}, (∀ r ∈ K, r ∈ keysOf L) → (K.filterMap (look L)).map (·.ref) = K
 | [], _ => rfl
 | r :: K, h => by
  obtain ⟨z, h1, h2⟩ := look_some (h r (by simp))
  rw [List.filterMap_cons, h1]
  simp only [List.map_cons, h2.ref]
  rw [filterMap_refs (fun x hx => h x (List.mem_cons_of_mem _ hx))]
theorem joinedF_refs (L : List KFact) : (joinedF L).map (·.ref) = keysOf L := filterMap_refs (fun _ h => h)
theorem joinedF_mem {L : List KFact} {z : KFact} (h : z ∈ joinedF L) : IsLook L z.ref z := by
 obtain ⟨r, hr, he⟩ := List.mem_filterMap.1 h
 obtain ⟨y, h1, h2⟩ := look_some hr
 rw [h1] at he
 cases he
 have := h2.ref
 subst this
 exact h2
theorem joinedF_congr {L L' : List KFact} (hs : SameP L) (hm : ∀ x, x ∈ L ↔ x ∈ L') : joinedF L = joinedF L' := by
 unfold joinedF
 rw [keysOf_congr hm, show look L = look L' from funext (look_congr hs hm)]
def ltB (a b : KBef) : Prop := a.ref < b.ref ∨ (a.ref = b.ref ∧ a.next < b.next)
theorem ltB_irr (a : KBef) : ¬ ltB a a := by unfold ltB; omega
theorem ltB_trans (a b c : KBef) (h1 : ltB a b) (h2 : ltB b c) : ltB a c := by unfold ltB at *; omega
theorem ltB_tri (a b : KBef) : ltB a b ∨ a = b ∨ ltB b a := by
 unfold ltB
 by_cases h : a.ref = b.ref
 · by_cases h2 : a.next = b.next
   · exact .inr (.inl (by cases a; cases b; simp only at h h2; subst h h2; rfl))
   · rcases Int.lt_or_gt_of_ne h2 with h3 | h3
     · exact .inl (.inr ⟨h, h3⟩)
     · exact .inr (.inr (.inr ⟨h.symm, h3⟩))
 · rcases Int.lt_or_gt_of_ne h with h3 | h3
   · exact .inl (.inl h3)
   · exact .inr (.inr (.inl h3))
theorem orders_unique {A B : List KBef} (h1 : A.Pairwise ltB) (h2 : B.Pairwise ltB) (hm : ∀ x, x ∈ A ↔ x ∈ B) : A = B := grows_unique ltB_irr ltB_trans h1 h2 hm
def KFact.rst (x : KFact) : Int × Int × Int × Bool := (x.ref, x.act, x.filed, x.secret)
theorem rst_ref {x y : KFact} (h : x.rst = y.rst) : x.ref = y.ref := congrArg (·.1) h
theorem KFact.ext' {x y : KFact} (h : x.rst = y.rst) (hl : x.low = y.low) (hh : x.high = y.high) : x = y := by
 cases x; cases y
 simp only [KFact.rst, Prod.mk.injEq] at h hl hh
 obtain ⟨h1, h2, h3, h4⟩ := h
 subst h1 h2 h3 h4 hl hh
 rfl
structure Tight (F T : List KFact) (O : List KBef) : Prop where
 rest : T.map KFact.rst = F.map KFact.rst
 leL : ∀ f ∈ F, ∀ t ∈ T, f.ref = t.ref → f.low ≤ t.low
 leH : ∀ f ∈ F, ∀ t ∈ T, f.ref = t.ref → t.high ≤ f.high
 cloL : ∀ b ∈ O, ∀ s ∈ T, ∀ t ∈ T, s.ref = b.ref → t.ref = b.next → s.low ≤ t.low
 cloH : ∀ b ∈ O, ∀ s ∈ T, ∀ t ∈ T, s.ref = b.ref → t.ref = b.next → s.high ≤ t.high
 minL : ∀ m : Int → Int, (∀ f ∈ F, f.low ≤ m f.ref) → (∀ b ∈ O, m b.ref ≤ m b.next) → ∀ t ∈ T, t.low ≤ m t.ref
 maxH : ∀ m : Int → Int, (∀ f ∈ F, m f.ref ≤ f.high) → (∀ b ∈ O, m b.ref ≤ m b.next) → ∀ t ∈ T, m t.ref ≤ t.high
def Known (F : List KFact) (O : List KBef) : Prop := ∀ b ∈ O, (∃ x ∈ F, x.ref = b.ref) ∧ ∃ x ∈ F, x.ref = b.next
def Distinct (F : List KFact) : Prop := (F.map (·.ref)).Pairwise (· < ·)
theorem map_pairwise_unique {F : List KFact} (h : Distinct F) : ∀ x ∈ F, ∀ y ∈ F, x.ref = y.ref → x = y := by
 unfold Distinct at h
 induction F with
 | nil => intro x hx; cases hx
 | cons a l ih =>
  rw [List.map_cons, List.pairwise_cons] at h
  intro x hx y hy e
  rcases List.mem_cons.1 hx with h1 | h1
  · rcases List.mem_cons.1 hy with h2 | h2
    · rw [h1, h2]
    · have := h.1 y.ref (List.mem_map_of_mem h2)
      rw [h1] at e
      omega
  · rcases List.mem_cons.1 hy with h2 | h2
    · have := h.1 x.ref (List.mem_map_of_mem h1)
      rw [h2] at e
      omega
    · exact ih h.2 x h1 y h2 e
def bndAt (g : KFact → Int) (T : List KFact) (r : Int) : Int := ((T.find? (fun x => x.ref == r)).map g).getD 0
theorem bndAt_mem {g : KFact → Int} {T : List KFact} (h : Distinct T) {t : KFact} (ht : t ∈ T) : bndAt g T t.ref = g t := by
 unfold bndAt
 cases e : T.find? (fun x => x.ref == t.ref) with
 | none =>
  have := List.find?_eq_none.1 e t ht
  simp at this
 | some y =>
  have h1 := List.mem_of_find?_eq_some e
  have h2 := List.find?_some e
  simp only [beq_iff_eq] at h2
  rw [map_pairwise_unique h y h1 t ht h2]
  rfl
theorem Tight.refs {F T : List KFact} {O : List KBef} (h : Tight F T O) : T.map (·.ref) = F.map (·.ref) := by
 have := congrArg (List.map (·.1)) h.rest
 rw [List.map_map, List.map_map] at this
 exact this
theorem Tight.distinct {F T : List KFact} {O : List KBef} (h : Tight F T O) (hd : Distinct F) : Distinct T := by unfold Distinct; rw [h.refs]; exact hd
theorem Tight.has {F T : List KFact} {O : List KBef} (h : Tight F T O) {f : KFact} (hf : f ∈ F) : ∃ t ∈ T, t.rst = f.rst := by
 have h1 : f.rst ∈ T.map KFact.rst := by rw [h.rest]; exact List.mem_map_of_mem hf
 obtain ⟨t, ht, e⟩ := List.mem_map.1 h1
 exact ⟨t, ht, e⟩
theorem Tight.had {F T : List KFact} {O : List KBef} (h : Tight F T O) {t : KFact} (ht : t ∈ T) : ∃ f ∈ F, f.rst = t.rst := by
 have h1 : t.rst ∈ F.map KFact.rst := by rw [← h.rest]; exact List.mem_map_of_mem ht
 obtain ⟨f, hf, e⟩ := List.mem_map.1 h1
 exact ⟨f, hf, e⟩
theorem Tight.known {F T : List KFact} {O : List KBef} (h : Tight F T O) (k : Known F O) : Known T O := fun b hb => by
 obtain ⟨⟨x, hx, h1⟩, y, hy, h2⟩ := k b hb
 obtain ⟨x', hx', h3⟩ := h.has hx
 obtain ⟨y', hy', h4⟩ := h.has hy
 exact ⟨⟨x', hx', (rst_ref h3).trans h1⟩, y', hy', (rst_ref h4).trans h2⟩
theorem Tight.low_le {F T T' : List KFact} {O : List KBef} (h : Tight F T O) (hd : Distinct T') (hk : Known T' O) (hF : ∀ f ∈ F, ∃ t ∈ T', t.ref = f.ref ∧ f.low ≤ t.low) (hc : ∀ b ∈ O, ∀ s ∈ T', ∀ t ∈ T', s.ref = b.ref → t.ref = b.next → s.low ≤ t.low) {t t' : KFact} (ht : t ∈ T) (ht' : t' ∈ T') (e : t.ref = t'.ref) : t.low ≤ t'.low := by
 have := h.minL (bndAt (·.low) T') (fun f hf => by
  obtain ⟨u, hu, h1, h2⟩ := hF f hf
  rw [← h1, bndAt_mem hd hu]; exact h2) (fun b hb => by
  obtain ⟨⟨x, hx, h1⟩, y, hy, h2⟩ := hk b hb
  rw [← h1, ← h2, bndAt_mem hd hx, bndAt_mem hd hy]
  exact hc b hb x hx y hy h1 h2) t ht
 rw [e, bndAt_mem hd ht'] at this
 exact this
theorem Tight.le_high {F T T' : List KFact} {O : List KBef} (h : Tight F T O) (hd : Distinct T') (hk : Known T' O) (hF : ∀ f ∈ F, ∃ t ∈ T', t.ref = f.ref ∧ t.high ≤ f.high) (hc : ∀ b ∈ O, ∀ s ∈ T', ∀ t ∈ T', s.ref = b.ref → t.ref = b.next → s.high ≤ t.high) {t t' : KFact} (ht : t ∈ T) (ht' : t' ∈ T') (e : t.ref = t'.ref) : t'.high ≤ t.high := by
 have := h.maxH (bndAt (·.high) T') (fun f hf => by
  obtain ⟨u, hu, h1, h2⟩ := hF f hf
  rw [← h1, bndAt_mem hd hu]; exact h2) (fun b hb => by
  obtain ⟨⟨x, hx, h1⟩, y, hy, h2⟩ := hk b hb
  rw [← h1, ← h2, bndAt_mem hd hx, bndAt_mem hd hy]
  exact hc b hb x hx y hy h1 h2) t ht
 rw [e, bndAt_mem hd ht'] at this
 exact this
theorem rst_ext : ∀ {T T' : List KFact}, T.map KFact.rst = T'.map KFact.rst → Distinct T → (∀ t ∈ T, ∀ t' ∈ T', t.ref = t'.ref → t.low = t'.low ∧ t.high = t'.high) → T = T'
 | [], [], _, _, _ => rfl
 | [], b :: l, h, _, _ => by cases h
 | a :: l, [], h, _, _ => by cases h
 | a :: l, b :: l', h, hd, he => by
  rw [List.map_cons, List.map_cons] at h
  injection h with h1 h2
  obtain ⟨e1, e2⟩ := he a (by simp) b (by simp) (rst_ref h1)
  have hd2 : Distinct l := by unfold Distinct at hd ⊢; rw [List.map_cons, List.pairwise_cons] at hd; exact hd.2
  rw [KFact.ext' h1 e1 e2, rst_ext h2 hd2 (fun t ht t' ht' => he t (List.mem_cons_of_mem _ ht) t' (List.mem_cons_of_mem _ ht'))]
theorem Tight.unique {F T T' : List KFact} {O : List KBef} (h : Tight F T O) (h' : Tight F T' O) (hd : Distinct F) (hk : Known F O) : T = T' := by
 have hF : ∀ f ∈ F, ∃ t ∈ T, t.ref = f.ref ∧ f.low ≤ t.low ∧ t.high ≤ f.high := fun f hf => by
  obtain ⟨t, ht, e⟩ := h.has hf
  exact ⟨t, ht, rst_ref e, h.leL f hf t ht (rst_ref e).symm, h.leH f hf t ht (rst_ref e).symm⟩
 have hF' : ∀ f ∈ F, ∃ t ∈ T', t.ref = f.ref ∧ f.low ≤ t.low ∧ t.high ≤ f.high := fun f hf => by
  obtain ⟨t, ht, e⟩ := h'.has hf
  exact ⟨t, ht, rst_ref e, h'.leL f hf t ht (rst_ref e).symm, h'.leH f hf t ht (rst_ref e).symm⟩
 refine rst_ext (h.rest.trans h'.rest.symm) (h.distinct hd) fun t ht t' ht' e => ?_
 have a1 := h.low_le (h'.distinct hd) (h'.known hk) (fun f hf => by obtain ⟨u, k1, k2, k3, _⟩ := hF' f hf; exact ⟨u, k1, k2, k3⟩) h'.cloL ht ht' e
 have a2 := h'.low_le (h.distinct hd) (h.known hk) (fun f hf => by obtain ⟨u, k1, k2, k3, _⟩ := hF f hf; exact ⟨u, k1, k2, k3⟩) h.cloL ht' ht e.symm
 have a3 := h.le_high (h'.distinct hd) (h'.known hk) (fun f hf => by obtain ⟨u, k1, k2, _, k3⟩ := hF' f hf; exact ⟨u, k1, k2, k3⟩) h'.cloH ht ht' e
 have a4 := h'.le_high (h.distinct hd) (h.known hk) (fun f hf => by obtain ⟨u, k1, k2, _, k3⟩ := hF f hf; exact ⟨u, k1, k2, k3⟩) h.cloH ht' ht e.symm
 exact ⟨by omega, by omega⟩
theorem joinedF_distinct (L : List KFact) : Distinct (joinedF L) := by unfold Distinct; rw [joinedF_refs]; exact keysOf_sorted L
theorem joinedF_of {L : List KFact} {x : KFact} (h : x ∈ L) : ∃ z ∈ joinedF L, z.ref = x.ref := by
 have : x.ref ∈ (joinedF L).map (·.ref) := by rw [joinedF_refs, keysOf_mem]; exact ⟨x, h, rfl⟩
 obtain ⟨z, hz, e⟩ := List.mem_map.1 this
 exact ⟨z, hz, e⟩
theorem SameP.congr {L L' : List KFact} (hm : ∀ x, x ∈ L ↔ x ∈ L') (h : SameP L) : SameP L' := fun x hx y hy e => h x ((hm x).2 hx) y ((hm y).2 hy) e
def OrdersOf (O OO : List KBef) : Prop := OO.Pairwise ltB ∧ ∀ x, x ∈ OO ↔ x ∈ O
theorem OrdersOf.congr {O O' OO : List KBef} (h : OrdersOf O OO) (hm : ∀ x, x ∈ O ↔ x ∈ O') : OrdersOf O' OO := ⟨h.1, fun x => (h.2 x).trans (hm x)⟩
theorem OrdersOf.unique {O OO OO' : List KBef} (h : OrdersOf O OO) (h' : OrdersOf O OO') : OO = OO' := orders_unique h.1 h'.1 (fun x => (h.2 x).trans (h'.2 x).symm)
structure Fine (L : List KFact) (O : List KBef) (T : List KFact) (OO : List KBef) : Prop where
 same : SameP L
 ord : OrdersOf O OO
 tight : Tight (joinedF L) T OO
 le : ∀ t ∈ T, t.low ≤ t.high
def Evid (L : List KFact) (O : List KBef) : Prop := ¬ SameP L ∨ ∃ T OO, OrdersOf O OO ∧ Tight (joinedF L) T OO ∧ ∃ t ∈ T, t.high < t.low
def KnownL (L : List KFact) (O : List KBef) : Prop := ∀ b ∈ O, (∃ x ∈ L, x.ref = b.ref) ∧ ∃ x ∈ L, x.ref = b.next
theorem KnownL.known {L : List KFact} {O OO : List KBef} (h : KnownL L O) (ho : OrdersOf O OO) : Known (joinedF L) OO := fun b hb => by
 obtain ⟨⟨x, hx, h1⟩, y, hy, h2⟩ := h b ((ho.2 b).1 hb)
 obtain ⟨x', k1, k2⟩ := joinedF_of hx
 obtain ⟨y', k3, k4⟩ := joinedF_of hy
 exact ⟨⟨x', k1, k2.trans h1⟩, y', k3, k4.trans h2⟩
theorem Fine.notEvid {L : List KFact} {O : List KBef} {T : List KFact} {OO : List KBef} (h : Fine L O T OO) (hk : KnownL L O) : ¬ Evid L O := by
 rintro (h1 | ⟨T', O', h1, h2, t, ht, h3⟩)
 · exact h1 h.same
 · obtain rfl := h.ord.unique h1
   obtain rfl := h.tight.unique h2 (joinedF_distinct L) (hk.known h.ord)
   have := h.le t ht
   omega
theorem Fine.unique {L : List KFact} {O : List KBef} {T T' : List KFact} {OO OO' : List KBef} (h : Fine L O T OO) (h' : Fine L O T' OO') (hk : KnownL L O) : T = T' ∧ OO = OO' := by
 obtain rfl := h.ord.unique h'.ord
 exact ⟨h.tight.unique h'.tight (joinedF_distinct L) (hk.known h.ord), rfl⟩
theorem Fine.congr {L L' : List KFact} {O O' : List KBef} {T : List KFact} {OO : List KBef} (h : Fine L O T OO) (hm : ∀ x, x ∈ L ↔ x ∈ L') (ho : ∀ x, x ∈ O ↔ x ∈ O') : Fine L' O' T OO :=
 ⟨h.same.congr hm, h.ord.congr ho, by rw [← joinedF_congr h.same hm]; exact h.tight, h.le⟩
theorem Evid.congr {L L' : List KFact} {O O' : List KBef} (h : Evid L O) (hm : ∀ x, x ∈ L ↔ x ∈ L') (ho : ∀ x, x ∈ O ↔ x ∈ O') : Evid L' O' := by
 by_cases hs : SameP L
 · rcases h with h | ⟨T, OO, h1, h2, h3⟩
   · exact absurd hs h
   · exact .inr ⟨T, OO, h1.congr ho, by rw [← joinedF_congr hs hm]; exact h2, h3⟩
 · exact .inl (fun k => hs (k.congr (fun x => (hm x).symm)))
theorem Tight.of_facts {A T : List KFact} {O : List KBef} (h : Tight (joinedF A) T O) {t : KFact} (ht : t ∈ T) : ∃ z ∈ joinedF A, z.rst = t.rst ∧ IsLook A t.ref z := by
 obtain ⟨z, hz, e⟩ := h.had ht
 have := joinedF_mem hz
 rw [rst_ref e] at this
 exact ⟨z, hz, e, this⟩
theorem Tight.to_facts {A T : List KFact} {O : List KBef} (h : Tight (joinedF A) T O) {x : KFact} (hx : x ∈ A) : ∃ t ∈ T, t.ref = x.ref ∧ x.low ≤ t.low ∧ t.high ≤ x.high ∧ t.filed ≤ x.filed := by
 obtain ⟨z, hz, e⟩ := joinedF_of hx
 obtain ⟨t, ht, e2⟩ := h.has hz
 have hl := joinedF_mem hz
 have h1 := hl.lows x hx e.symm
 have h2 := hl.highs x hx e.symm
 have h3 := hl.fileds x hx e.symm
 have h4 := h.leL z hz t ht (rst_ref e2).symm
 have h5 := h.leH z hz t ht (rst_ref e2).symm
 have h6 : t.filed = z.filed := congrArg (·.2.2.1) e2
 exact ⟨t, ht, (rst_ref e2).trans e, by omega, by omega, by omega⟩
section
variable {A B T1 T : List KFact} {O1 OO : List KBef}
theorem same_steps (hA : SameP A) (h1 : Tight (joinedF A) T1 O1) : SameP (T1 ++ B) ↔ SameP (A ++ B) := by
 have back : ∀ t ∈ T1, ∃ x ∈ A, x.ref = t.ref ∧ x.act = t.act := fun t ht => by
  obtain ⟨z, _, e, hl⟩ := h1.of_facts ht
  obtain ⟨x, hx, k1, k2⟩ := hl.act
  exact ⟨x, hx, k1, k2.trans (congrArg (·.2.1) e)⟩
 have forth : ∀ x ∈ A, ∃ t ∈ T1, t.ref = x.ref ∧ t.act = x.act := fun x hx => by
  obtain ⟨t, ht, e, _⟩ := h1.to_facts hx
  obtain ⟨y, hy, k1, k2⟩ := back t ht
  exact ⟨t, ht, e, k2.symm.trans (hA y hy x hx (k1.trans e))⟩
 constructor
 · intro h
   have up : ∀ x ∈ A ++ B, ∃ t ∈ T1 ++ B, t.ref = x.ref ∧ t.act = x.act := fun x hx => by
    rcases List.mem_append.1 hx with k | k
    · obtain ⟨t, ht, e⟩ := forth x k; exact ⟨t, List.mem_append.2 (.inl ht), e⟩
    · exact ⟨x, List.mem_append.2 (.inr k), rfl, rfl⟩
   intro x hx y hy e
   obtain ⟨t, ht, k1, k2⟩ := up x hx
   obtain ⟨u, hu, k3, k4⟩ := up y hy
   rw [← k2, ← k4]
   exact h t ht u hu (by rw [k1, k3, e])
 · intro h
   have dn : ∀ t ∈ T1 ++ B, ∃ x ∈ A ++ B, x.ref = t.ref ∧ x.act = t.act := fun t ht => by
    rcases List.mem_append.1 ht with k | k
    · obtain ⟨x, hx, e⟩ := back t k; exact ⟨x, List.mem_append.2 (.inl hx), e⟩
    · exact ⟨t, List.mem_append.2 (.inr k), rfl, rfl⟩
   intro x hx y hy e
   obtain ⟨t, ht, k1, k2⟩ := dn x hx
   obtain ⟨u, hu, k3, k4⟩ := dn y hy
   rw [← k2, ← k4]
   exact h t ht u hu (by rw [k1, k3, e])
theorem keys_steps (h1 : Tight (joinedF A) T1 O1) : keysOf (T1 ++ B) = keysOf (A ++ B) := by
 refine keys_unique (keysOf_sorted _) (fun r => (keysOf_mem _ r).trans ⟨?_, ?_⟩)
 · rintro ⟨x, hx, e⟩
   rcases List.mem_append.1 hx with k | k
   · obtain ⟨z, _, _, hl⟩ := h1.of_facts k
     obtain ⟨y, hy, k1, _⟩ := hl.act
     exact ⟨y, List.mem_append.2 (.inl hy), k1.trans e⟩
   · exact ⟨x, List.mem_append.2 (.inr k), e⟩
 · rintro ⟨x, hx, e⟩
   rcases List.mem_append.1 hx with k | k
   · obtain ⟨t, ht, k1, _⟩ := h1.to_facts k
     exact ⟨t, List.mem_append.2 (.inl ht), k1.trans e⟩
   · exact ⟨x, List.mem_append.2 (.inr k), e⟩
theorem rst_steps {r : Int} {z z' : KFact} (hs : SameP (A ++ B)) (h1 : Tight (joinedF A) T1 O1) (hz : IsLook (A ++ B) r z) (hz' : IsLook (T1 ++ B) r z') : z'.rst = z.rst := by
 have inA : ∀ {x}, x ∈ A → x ∈ A ++ B := fun h => List.mem_append.2 (.inl h)
 have inB : ∀ {x}, x ∈ B → x ∈ A ++ B := fun h => List.mem_append.2 (.inr h)
 have inT : ∀ {x}, x ∈ T1 → x ∈ T1 ++ B := fun h => List.mem_append.2 (.inl h)
 have inB' : ∀ {x}, x ∈ B → x ∈ T1 ++ B := fun h => List.mem_append.2 (.inr h)
 have ha : z'.act = z.act := by
  obtain ⟨x, hx, k1, k2⟩ := hz.act
  obtain ⟨y, hy, k3, k4⟩ := hz'.act
  rw [← k2, ← k4]
  rcases List.mem_append.1 hy with k | k
  · obtain ⟨u, _, e, hl⟩ := h1.of_facts k
    obtain ⟨v, hv, k5, k6⟩ := hl.act
    rw [show y.act = u.act from (congrArg (·.2.1) e).symm, ← k6]
    exact hs v (inA hv) x hx (by rw [k5, k3, k1])
  · exact hs y (inB k) x hx (by rw [k3, k1])
 have hf : z'.filed = z.filed := by
  have a1 : z.filed ≤ z'.filed := by
   obtain ⟨y, hy, k3, k4⟩ := hz'.filed
   rw [← k4]
   rcases List.mem_append.1 hy with k | k
   · obtain ⟨u, _, e, hl⟩ := h1.of_facts k
     obtain ⟨v, hv, k5, k6⟩ := hl.filed
     rw [show y.filed = u.filed from (congrArg (·.2.2.1) e).symm, ← k6]
     exact hz.fileds v (inA hv) (k5.trans k3)
   · exact hz.fileds y (inB k) k3
  have a2 : z'.filed ≤ z.filed := by
   obtain ⟨y, hy, k3, k4⟩ := hz.filed
   rw [← k4]
   rcases List.mem_append.1 hy with k | k
   · obtain ⟨t, ht, e, _, _, e2⟩ := h1.to_facts k
     have := hz'.fileds t (inT ht) (e.trans k3)
     omega
   · exact hz'.fileds y (inB' k) k3
  omega
 have hse : z'.secret = z.secret := by
  rw [Bool.eq_iff_iff, hz'.sec, hz.sec]
  constructor
  · intro h x hx e
    rcases List.mem_append.1 hx with k | k
    · obtain ⟨t, ht, e2, _⟩ := h1.to_facts k
      have h2 := h t (inT ht) (e2.trans e)
      obtain ⟨u, _, e3, hl⟩ := h1.of_facts ht
      have h3 : u.secret = true := (congrArg (·.2.2.2) e3).trans h2
      exact hl.sec.1 h3 x k e2.symm
    · exact h x (inB' k) e
  · intro h t ht e
    rcases List.mem_append.1 ht with k | k
    · obtain ⟨u, _, e3, hl⟩ := h1.of_facts k
      have h3 : u.secret = true := hl.sec.2 (fun x hx e4 => h x (inA hx) (e4.trans e))
      exact (congrArg (·.2.2.2) e3).symm.trans h3
    · exact h t (inB k) e
 show (z'.ref, z'.act, z'.filed, z'.secret) = (z.ref, z.act, z.filed, z.secret)
 rw [ha, hf, hse, hz'.ref, hz.ref]
theorem rst_lists {L L' : List KFact} : ∀ {K : List Int}, (∀ r ∈ K, ∃ z z', look L r = some z ∧ look L' r = some z' ∧ z'.rst = z.rst) → (K.filterMap (look L')).map KFact.rst = (K.filterMap (look L)).map KFact.rst
 | [], _ => rfl
 | r :: K, h => by
  obtain ⟨z, z', h1, h2, h3⟩ := h r (by simp)
  rw [List.filterMap_cons, List.filterMap_cons, h1, h2]
  simp only [List.map_cons, h3]
  rw [rst_lists (fun x hx => h x (List.mem_cons_of_mem _ hx))]
theorem Tight.steps (hs : SameP (A ++ B)) (h1 : Tight (joinedF A) T1 O1) (ho : ∀ b ∈ O1, b ∈ OO) (h : Tight (joinedF (T1 ++ B)) T OO) : Tight (joinedF (A ++ B)) T OO := by
 have hr : (joinedF (T1 ++ B)).map KFact.rst = (joinedF (A ++ B)).map KFact.rst := by
  unfold joinedF
  rw [keys_steps h1]
  refine rst_lists fun r hr => ?_
  obtain ⟨z, k1, k2⟩ := look_some hr
  rw [← keys_steps h1] at hr
  obtain ⟨z', k3, k4⟩ := look_some hr
  exact ⟨z, z', k1, k3, rst_steps hs h1 k2 k4⟩
 -- the facts of both, by Ref
 have both : ∀ z ∈ joinedF (A ++ B), ∃ z' ∈ joinedF (T1 ++ B), z'.rst = z.rst := fun z hz => by
  have : z.rst ∈ (joinedF (T1 ++ B)).map KFact.rst := by rw [hr]; exact List.mem_map_of_mem hz
  obtain ⟨z', k1, k2⟩ := List.mem_map.1 this
  exact ⟨z', k1, k2⟩
 have lowUp : ∀ z ∈ joinedF (A ++ B), ∀ z' ∈ joinedF (T1 ++ B), z.ref = z'.ref → z.low ≤ z'.low ∧ z'.high ≤ z.high := fun z hz z' hz' e => by
  have hl := joinedF_mem hz
  have hl' := joinedF_mem hz'
  refine ⟨?_, ?_⟩
  · obtain ⟨x, hx, k1, k2⟩ := hl.low
    rw [← k2]
    rcases List.mem_append.1 hx with k | k
    · obtain ⟨t, ht, e2, e3, _⟩ := h1.to_facts k
      have := hl'.lows t (List.mem_append.2 (.inl ht)) (by rw [e2, k1, e])
      omega
    · exact hl'.lows x (List.mem_append.2 (.inr k)) (k1.trans e)
  · obtain ⟨x, hx, k1, k2⟩ := hl.high
    rw [← k2]
    rcases List.mem_append.1 hx with k | k
    · obtain ⟨t, ht, e2, _, e3, _⟩ := h1.to_facts k
      have := hl'.highs t (List.mem_append.2 (.inl ht)) (by rw [e2, k1, e])
      omega
    · exact hl'.highs x (List.mem_append.2 (.inr k)) (k1.trans e)
 refine ⟨h.rest.trans hr, fun f hf t ht e => ?_, fun f hf t ht e => ?_, h.cloL, h.cloH, fun m hm hc t ht => ?_, fun m hm hc t ht => ?_⟩
 · obtain ⟨z', k1, k2⟩ := both f hf
   have a1 := (lowUp f hf z' k1 (rst_ref k2).symm).1
   have a2 := h.leL z' k1 t ht ((rst_ref k2).trans e)
   omega
 · obtain ⟨z', k1, k2⟩ := both f hf
   have a1 := (lowUp f hf z' k1 (rst_ref k2).symm).2
   have a2 := h.leH z' k1 t ht ((rst_ref k2).trans e)
   omega
 · refine h.minL m (fun z' hz' => ?_) hc t ht
   have hl' := joinedF_mem hz'
   obtain ⟨x, hx, k1, k2⟩ := hl'.low
   rw [← k2, ← k1]
   have mA : ∀ y ∈ A ++ B, y.low ≤ m y.ref := fun y hy => by
    obtain ⟨z, hz, e⟩ := joinedF_of hy
    have b1 := (joinedF_mem hz).lows y hy e.symm
    have b2 := hm z hz
    rw [e] at b2
    omega
   rcases List.mem_append.1 hx with k | k
   · refine h1.minL m (fun z hz => ?_) (fun b hb => hc b (ho b hb)) x k
     obtain ⟨y, hy, k3, k4⟩ := (joinedF_mem hz).low
     rw [← k4, ← k3]
     exact mA y (List.mem_append.2 (.inl hy))
   · exact mA x (List.mem_append.2 (.inr k))
 · refine h.maxH m (fun z' hz' => ?_) hc t ht
   have hl' := joinedF_mem hz'
   obtain ⟨x, hx, k1, k2⟩ := hl'.high
   rw [← k2, ← k1]
   have mA : ∀ y ∈ A ++ B, m y.ref ≤ y.high := fun y hy => by
    obtain ⟨z, hz, e⟩ := joinedF_of hy
    have b1 := (joinedF_mem hz).highs y hy e.symm
    have b2 := hm z hz
    rw [e] at b2
    omega
   rcases List.mem_append.1 hx with k | k
   · refine h1.maxH m (fun z hz => ?_) (fun b hb => hc b (ho b hb)) x k
     obtain ⟨y, hy, k3, k4⟩ := (joinedF_mem hz).high
     rw [← k4, ← k3]
     exact mA y (List.mem_append.2 (.inl hy))
   · exact mA x (List.mem_append.2 (.inr k))
end
theorem Evid.steps {A B T1 : List KFact} {OA OB O1 : List KBef} (hf : Fine A OA T1 O1) (h : Evid (T1 ++ B) (O1 ++ OB)) : Evid (A ++ B) (OA ++ OB) := by
 by_cases hs : SameP (A ++ B)
 · rcases h with h | ⟨T, OO, h1, h2, h3⟩
   · exact absurd ((same_steps hf.same hf.tight).2 hs) h
   · have ho : ∀ x, x ∈ O1 ++ OB ↔ x ∈ OA ++ OB := fun x => by rw [List.mem_append, List.mem_append, hf.ord.2]
     exact .inr ⟨T, OO, h1.congr ho, Tight.steps hs hf.tight (fun b hb => (h1.2 b).2 (List.mem_append.2 (.inl hb))) h2, h3⟩
 · exact .inl hs
theorem Fine.steps {A B T1 T : List KFact} {OA OB O1 OO : List KBef} (hf : Fine A OA T1 O1) (h : Fine (T1 ++ B) (O1 ++ OB) T OO) : Fine (A ++ B) (OA ++ OB) T OO := by
 have hs : SameP (A ++ B) := (same_steps hf.same hf.tight).1 h.same
 have ho : ∀ x, x ∈ O1 ++ OB ↔ x ∈ OA ++ OB := fun x => by rw [List.mem_append, List.mem_append, hf.ord.2]
 exact ⟨hs, h.ord.congr ho, Tight.steps hs hf.tight (fun b hb => (h.ord.2 b).2 (List.mem_append.2 (.inl hb))) h.tight, h.le⟩
theorem Tight.more {A L TA T : List KFact} {OA OO : List KBef} (h1 : Tight (joinedF A) TA OA) (h : Tight (joinedF L) T OO) (hA : ∀ x ∈ A, x ∈ L) (ho : ∀ b ∈ OA, b ∈ OO) (hd : Distinct T) (hk : Known (joinedF A) OA) {u t : KFact} (hu : u ∈ TA) (ht : t ∈ T) (e : u.ref = t.ref) : u.low ≤ t.low ∧ t.high ≤ u.high := by
 have kn : ∀ b ∈ OA, (∃ x ∈ T, x.ref = b.ref) ∧ ∃ x ∈ T, x.ref = b.next := fun b hb => by
  obtain ⟨⟨x, hx, k1⟩, y, hy, k2⟩ := hk b hb
  have find : ∀ z ∈ joinedF A, ∃ w ∈ T, w.ref = z.ref := fun z hz => by
   obtain ⟨v, hv, k3, _⟩ := (joinedF_mem hz).act
   obtain ⟨w, hw, k4, _⟩ := h.to_facts (hA v hv)
   exact ⟨w, hw, k4.trans k3⟩
  obtain ⟨w, hw, k3⟩ := find x hx
  obtain ⟨w', hw', k4⟩ := find y hy
  exact ⟨⟨w, hw, k3.trans k1⟩, w', hw', k4.trans k2⟩
 refine ⟨h1.low_le hd kn (fun f hf => ?_) (fun b hb => h.cloL b (ho b hb)) hu ht e, h1.le_high hd kn (fun f hf => ?_) (fun b hb => h.cloH b (ho b hb)) hu ht e⟩
 · obtain ⟨v, hv, k1, k2⟩ := (joinedF_mem hf).low
   obtain ⟨w, hw, k3, k4, _⟩ := h.to_facts (hA v hv)
   exact ⟨w, hw, k3.trans k1, by omega⟩
 · obtain ⟨v, hv, k1, k2⟩ := (joinedF_mem hf).high
   obtain ⟨w, hw, k3, _, k4, _⟩ := h.to_facts (hA v hv)
   exact ⟨w, hw, k3.trans k1, by omega⟩
theorem Evid.more {A L : List KFact} {OA O OO : List KBef} {T : List KFact} (h : Evid A OA) (hf : Fine L O T OO) (hA : ∀ x ∈ A, x ∈ L) (ho : ∀ b ∈ OA, b ∈ O) (hk : KnownL A OA) : False := by
 rcases h with h | ⟨TA, O1, h1, h2, u, hu, h3⟩
 · exact h (fun x hx y hy => hf.same x (hA x hx) y (hA y hy))
 · obtain ⟨z, hz, e⟩ := h2.had hu
   obtain ⟨v, hv, k3, _⟩ := (joinedF_mem hz).act
   obtain ⟨w, hw, k4, _⟩ := hf.tight.to_facts (hA v hv)
   have e2 : u.ref = w.ref := by rw [k4, k3, rst_ref e]
   have := h2.more hf.tight hA (fun b hb => (hf.ord.2 b).2 (ho b ((h1.2 b).1 hb))) (hf.tight.distinct (joinedF_distinct L)) (hk.known h1) hu hw e2
   have := hf.le w hw
   omega
theorem look_distinct {T : List KFact} (h : Distinct T) {t : KFact} (ht : t ∈ T) : look T t.ref = some t := by
 rcases look_is T t.ref with ⟨_, h2⟩ | ⟨z, h1, h2⟩
 · exact absurd rfl (h2 t ht)
 · have only : ∀ x ∈ T, x.ref = t.ref → x = t := fun x hx e => map_pairwise_unique h x hx t ht e
   rw [h1]
   congr 1
   obtain ⟨a, ha, k1, k2⟩ := h2.act
   obtain ⟨b, hb, k3, k4⟩ := h2.low
   obtain ⟨c, hc, k5, k6⟩ := h2.high
   obtain ⟨d, hd, k7, k8⟩ := h2.filed
   rw [only a ha k1] at k2
   rw [only b hb k3] at k4
   rw [only c hc k5] at k6
   rw [only d hd k7] at k8
   have ks : z.secret = t.secret := by
    rw [Bool.eq_iff_iff, h2.sec]
    exact ⟨fun k => k t ht rfl, fun k x hx e => by rw [only x hx e]; exact k⟩
   refine KFact.ext' ?_ k4.symm k6.symm
   show (z.ref, z.act, z.filed, z.secret) = _
   rw [h2.ref, ← k2, ← k8, ks]
   rfl
theorem joinedF_self {T : List KFact} (h : Distinct T) : joinedF T = T := by
 have hk : keysOf T = T.map (·.ref) := (keys_unique (L := T) h (fun r => by simp)).symm
 unfold joinedF
 rw [hk]
 have : ∀ S : List KFact, (∀ x ∈ S, x ∈ T) → (S.map (·.ref)).filterMap (look T) = S := fun S => by
  induction S with
  | nil => intro _; rfl
  | cons a l ih =>
   intro hS
   rw [List.map_cons, List.filterMap_cons, look_distinct h (hS a (by simp))]
   simp only
   rw [ih (fun x hx => hS x (List.mem_cons_of_mem _ hx))]
 exact this T (fun _ hx => hx)
theorem Distinct.same {T : List KFact} (h : Distinct T) : SameP T := fun x hx y hy e => by rw [map_pairwise_unique h x hx y hy e]
theorem Tight.self {F T : List KFact} {O : List KBef} (h : Tight F T O) (hd : Distinct F) : Tight T T O :=
 ⟨rfl, fun f hf t ht e => by rw [map_pairwise_unique (h.distinct hd) f hf t ht e]; exact Int.le_refl _,
  fun f hf t ht e => by rw [map_pairwise_unique (h.distinct hd) f hf t ht e]; exact Int.le_refl _, h.cloL, h.cloH, fun m hm _ t ht => hm t ht, fun m hm _ t ht => hm t ht⟩
theorem Fine.again {L : List KFact} {O : List KBef} {T : List KFact} {OO : List KBef} (h : Fine L O T OO) : Fine T OO T OO := by
 have hd := h.tight.distinct (joinedF_distinct L)
 exact ⟨hd.same, ⟨h.ord.1, fun _ => .rfl⟩, by rw [joinedF_self hd]; exact h.tight.self (joinedF_distinct L), h.le⟩
structure May (L : List KFact) (O : List KBef) (d : Int → Int) : Prop where
 lo : ∀ x ∈ L, x.low ≤ d x.ref
 hi : ∀ x ∈ L, d x.ref ≤ x.high
 ord : ∀ b ∈ O, d b.ref ≤ d b.next
theorem May.tight {L T : List KFact} {O OO : List KBef} {d : Int → Int} (h : May L O d) (ho : OrdersOf O OO) (ht : Tight (joinedF L) T OO) : May T OO d := by
 have hc : ∀ b ∈ OO, d b.ref ≤ d b.next := fun b hb => h.ord b ((ho.2 b).1 hb)
 refine ⟨ht.minL d (fun z hz => ?_) hc, ht.maxH d (fun z hz => ?_) hc, hc⟩
 · obtain ⟨x, hx, k1, k2⟩ := (joinedF_mem hz).low
   rw [← k2, ← k1]; exact h.lo x hx
 · obtain ⟨x, hx, k1, k2⟩ := (joinedF_mem hz).high
   rw [← k2, ← k1]; exact h.hi x hx
theorem May.notEvid {L : List KFact} {O : List KBef} {d : Int → Int} (h : May L O d) (hs : SameP L) : ¬ Evid L O := by
 rintro (h1 | ⟨T, OO, h1, h2, t, ht, h3⟩)
 · exact h1 hs
 · have k := h.tight h1 h2
   have a := k.lo t ht
   have b := k.hi t ht
   omega
def lexLt : List Int → List Int → Prop
 | a :: l, b :: m => a < b ∨ (a = b ∧ lexLt l m)
 | _, _ => False
theorem lexLt_irr : ∀ l : List Int, ¬ lexLt l l
 | [] => fun h => h
 | a :: l => fun h => by
  rcases h with h | ⟨_, h⟩
  · omega
  · exact lexLt_irr l h
theorem lexLt_trans : ∀ a b c : List Int, lexLt a b → lexLt b c → lexLt a c
 | x :: a, y :: b, z :: c, h1, h2 => by
  rcases h1 with h1 | ⟨h1, h3⟩
  · rcases h2 with h2 | ⟨h2, _⟩
    · exact .inl (by omega)
    · exact .inl (by omega)
  · rcases h2 with h2 | ⟨h2, h4⟩
    · exact .inl (by omega)
    · exact .inr ⟨by omega, lexLt_trans a b c h3 h4⟩
 | [], _, _, h1, _ => h1.elim
 | _ :: _, [], _, h1, _ => h1.elim
 | _ :: _, _ :: _, [], _, h2 => h2.elim
theorem lex_unique {A B : List (List Int)} (h1 : A.Pairwise lexLt) (h2 : B.Pairwise lexLt) (hm : ∀ x, x ∈ A ↔ x ∈ B) : A = B := grows_unique lexLt_irr lexLt_trans h1 h2 hm
structure Day (T : List KFact) (OO : List KBef) (u : Int) (day : Int → Int) : Prop where
 lo : ∀ t ∈ T, min t.low u ≤ day t.ref
 hi : ∀ t ∈ T, day t.ref ≤ min t.high u
 ord : ∀ b ∈ OO, day b.ref ≤ day b.next
def daysOf (T : List KFact) (day : Int → Int) : List Int := T.map (fun t => day t.ref)
structure IsChoices (T : List KFact) (OO : List KBef) (u : Int) (Y : List (List Int)) : Prop where
 sorted : Y.Pairwise lexLt
 mem : ∀ d, d ∈ Y ↔ ∃ day, d = daysOf T day ∧ Day T OO u day
theorem IsChoices.unique {T : List KFact} {OO : List KBef} {u : Int} {Y Y' : List (List Int)} (h : IsChoices T OO u Y) (h' : IsChoices T OO u Y') : Y = Y' :=
 lex_unique h.sorted h'.sorted (fun d => (h.mem d).trans (h'.mem d).symm)
theorem May.day {T : List KFact} {OO : List KBef} {d : Int → Int} (h : May T OO d) (u : Int) : Day T OO u (fun r => min (d r) u) :=
 ⟨fun t ht => by have := h.lo t ht; show min t.low u ≤ min (d t.ref) u; omega, fun t ht => by have := h.hi t ht; show min (d t.ref) u ≤ min t.high u; omega, fun b hb => by have := h.ord b hb; show min (d b.ref) u ≤ min (d b.next) u; omega⟩
theorem Day.some {T : List KFact} {OO : List KBef} {F : List KFact} (u : Int) (h : Tight F T OO) (hd : Distinct F) (hk : Known F OO) (hl : ∀ t ∈ T, t.low ≤ t.high) : ∃ day, Day T OO u day := by
 refine ⟨fun r => min (bndAt (·.low) T r) u, fun t ht => ?_, fun t ht => ?_, fun b hb => ?_⟩
 · show min t.low u ≤ min (bndAt (·.low) T t.ref) u
   rw [bndAt_mem (h.distinct hd) ht]; exact Int.le_refl _
 · show min (bndAt (·.low) T t.ref) u ≤ min t.high u
   rw [bndAt_mem (h.distinct hd) ht]
   have := hl t ht
   omega
 · show min (bndAt (·.low) T b.ref) u ≤ min (bndAt (·.low) T b.next) u
   obtain ⟨⟨x, hx, h1⟩, y, hy, h2⟩ := h.known hk b hb
   rw [← h1, ← h2, bndAt_mem (h.distinct hd) hx, bndAt_mem (h.distinct hd) hy]
   have := h.cloL b hb x hx y hy h1 h2
   omega
theorem Day.cut {T : List KFact} {OO : List KBef} {e l : Int} (hel : e ≤ l) {day : Int → Int} (h : Day T OO l day) : Day T OO e (fun r => min (day r) e) :=
 ⟨fun t ht => by have := h.lo t ht; show min t.low e ≤ min (day t.ref) e; omega, fun t ht => by have := h.hi t ht; show min (day t.ref) e ≤ min t.high e; omega, fun b hb => by have := h.ord b hb; show min (day b.ref) e ≤ min (day b.next) e; omega⟩
theorem Day.extend {T F : List KFact} {OO : List KBef} {e l : Int} (hel : e ≤ l) (ht : Tight F T OO) (hd : Distinct F) (hk : Known F OO) (hl : ∀ t ∈ T, t.low ≤ t.high) {day : Int → Int} (h : Day T OO e day) :
 ∃ day', Day T OO l day' ∧ ∀ t ∈ T, min (day' t.ref) e = day t.ref := by
 refine ⟨fun r => max (day r) (min (bndAt (·.low) T r) l), ⟨fun t ht' => ?_, fun t ht' => ?_, fun b hb => ?_⟩, fun t ht' => ?_⟩
 · show min t.low l ≤ max (day t.ref) (min (bndAt (·.low) T t.ref) l)
   rw [bndAt_mem (ht.distinct hd) ht']
   omega
 · show max (day t.ref) (min (bndAt (·.low) T t.ref) l) ≤ min t.high l
   rw [bndAt_mem (ht.distinct hd) ht']
   have a1 := h.hi t ht'
   have a2 := hl t ht'
   omega
 · show max (day b.ref) (min (bndAt (·.low) T b.ref) l) ≤ max (day b.next) (min (bndAt (·.low) T b.next) l)
   obtain ⟨⟨x, hx, h1⟩, y, hy, h2⟩ := ht.known hk b hb
   have a1 := h.ord b hb
   have a2 := ht.cloL b hb x hx y hy h1 h2
   rw [← h1, ← h2, bndAt_mem (ht.distinct hd) hx, bndAt_mem (ht.distinct hd) hy]
   rw [← h1, ← h2] at a1
   omega
 · show min (max (day t.ref) (min (bndAt (·.low) T t.ref) l)) e = day t.ref
   rw [bndAt_mem (ht.distinct hd) ht']
   have a1 := h.lo t ht'
   have a2 := h.hi t ht'
   omega
theorem Day.narrow {A L TA T : List KFact} {OA O OAA OO : List KBef} (h1 : Fine A OA TA OAA) (h : Fine L O T OO) (hA : ∀ x ∈ A, x ∈ L) (ho : ∀ b ∈ OA, b ∈ O) (hk : KnownL A OA) {u : Int} {day : Int → Int} (hd : Day T OO u day) : Day TA OAA u day := by
 have find : ∀ t ∈ TA, ∃ w ∈ T, w.ref = t.ref ∧ t.low ≤ w.low ∧ w.high ≤ t.high := fun t ht => by
  obtain ⟨z, hz, e⟩ := h1.tight.had ht
  obtain ⟨v, hv, k3, _⟩ := (joinedF_mem hz).act
  obtain ⟨w, hw, k4, _⟩ := h.tight.to_facts (hA v hv)
  have e2 : t.ref = w.ref := by rw [k4, k3, rst_ref e]
  have := h1.tight.more h.tight hA (fun b hb => (h.ord.2 b).2 (ho b ((h1.ord.2 b).1 hb))) (h.tight.distinct (joinedF_distinct L)) (hk.known h1.ord) ht hw e2
  exact ⟨w, hw, e2.symm, this.1, this.2⟩
 refine ⟨fun t ht => ?_, fun t ht => ?_, fun b hb => hd.ord b ((h.ord.2 b).2 (ho b ((h1.ord.2 b).1 hb)))⟩
 · obtain ⟨w, hw, e, a1, a2⟩ := find t ht
   have := hd.lo w hw
   rw [← e]
   omega
 · obtain ⟨w, hw, e, a1, a2⟩ := find t ht
   have := hd.hi w hw
   rw [← e]
   omega
def refsAt (F : List KFact) (D : List Int) (d : Int) : List Int := ((F.zip D).filter (fun p => p.2 == d)).map (fun p => p.1.ref)
def actOf (F : List KFact) (r : Int) : Int := ((F.find? (fun x => x.ref == r)).map (·.act)).getD 0
def sortK (l : List Int) : List Int := l.foldl (fun k x => insK x k) []
theorem sortK_snoc (l : List Int) (x : Int) : sortK (l ++ [x]) = insK x (sortK l) := by unfold sortK; rw [List.foldl_append]; rfl
theorem sortK_sorted (l : List Int) : (sortK l).Pairwise (· < ·) := by
 induction l using snocInd with
 | h0 => exact List.Pairwise.nil
 | h1 l x ih => rw [sortK_snoc]; exact insK_sorted _ _ ih
theorem sortK_mem (l : List Int) (r : Int) : r ∈ sortK l ↔ r ∈ l := by
 induction l using snocInd with
 | h0 => simp [sortK]
 | h1 l x ih => rw [sortK_snoc, insK_mem, ih, List.mem_append, List.mem_singleton]; exact Or.comm
theorem ints_unique {A B : List Int} (h1 : A.Pairwise (· < ·)) (h2 : B.Pairwise (· < ·)) (hm : ∀ x, x ∈ A ↔ x ∈ B) : A = B := grows_unique (fun a h => Int.lt_irrefl a h) (fun _ _ _ => Int.lt_trans) h1 h2 hm
theorem sortK_congr {l m : List Int} (h : ∀ x, x ∈ l ↔ x ∈ m) : sortK l = sortK m := ints_unique (sortK_sorted l) (sortK_sorted m) (fun x => (sortK_mem l x).trans ((h x).trans (sortK_mem m x).symm))
def blockM (F : List KFact) (D : List Int) (d : Int) : List Int := (sortK (refsAt F D d)).map (actOf F) ++ [-1]
def blocks (F : List KFact) (D : List Int) (n : Nat) : List Int := (List.range n).flatMap (fun d : Nat => blockM F D (d : Int))
def NoTwice (F : List KFact) : Prop := (F.map (·.ref)).Nodup
theorem Distinct.noTwice {F : List KFact} (h : Distinct F) : NoTwice F := List.Pairwise.imp (fun h => by omega) h
instance (F : List KFact) : Decidable (NoTwice F) := inferInstanceAs (Decidable (List.Nodup _))
def traceM (F : List KFact) (D : List Int) (u : Int) : List Int :=
 if F.length = D.length ∧ 0 ≤ u ∧ u ≤ 2000 ∧ NoTwice F then blocks F D u.toNat else []
theorem traceM_pos {F : List KFact} {D : List Int} {u : Int} (h1 : F.length = D.length) (h2 : 0 ≤ u) (h3 : u ≤ 2000) (h4 : NoTwice F) : traceM F D u = blocks F D u.toNat := by unfold traceM; rw [if_pos ⟨h1, h2, h3, h4⟩]
theorem blocks_succ (F : List KFact) (D : List Int) (n : Nat) : blocks F D (n + 1) = blocks F D n ++ blockM F D n := by
 unfold blocks
 rw [List.range_succ, List.flatMap_append]
 simp
theorem mem_refsAt {F : List KFact} {D : List Int} {d r : Int} : r ∈ refsAt F D d ↔ ∃ (i : Nat) (x : KFact), F[i]? = some x ∧ D[i]? = some d ∧ x.ref = r := by
 unfold refsAt
 simp only [List.mem_map, List.mem_filter, Prod.exists, beq_iff_eq]
 constructor
 · rintro ⟨x, e, ⟨h1, rfl⟩, rfl⟩
   obtain ⟨i, hi, he⟩ := List.mem_iff_getElem.1 h1
   rw [List.getElem_zip] at he
   rw [List.length_zip] at hi
   injection he with e1 e2
   exact ⟨i, x, by rw [List.getElem?_eq_getElem (by omega), e1], by rw [List.getElem?_eq_getElem (by omega), e2], rfl⟩
 · rintro ⟨i, x, h1, h2, rfl⟩
   obtain ⟨k1, k2⟩ := List.getElem?_eq_some_iff.1 h1
   obtain ⟨k3, k4⟩ := List.getElem?_eq_some_iff.1 h2
   refine ⟨x, d, ⟨List.mem_iff_getElem.2 ⟨i, by rw [List.length_zip]; omega, ?_⟩, rfl⟩, rfl⟩
   rw [List.getElem_zip, k2, k4]
theorem noTwice_unique {F : List KFact} (h : NoTwice F) : ∀ x ∈ F, ∀ y ∈ F, x.ref = y.ref → x = y := by
 unfold NoTwice at h
 induction F with
 | nil => intro x hx; cases hx
 | cons a l ih =>
  rw [List.map_cons, List.nodup_cons] at h
  intro x hx y hy e
  rcases List.mem_cons.1 hx with h1 | h1
  · rcases List.mem_cons.1 hy with h2 | h2
    · rw [h1, h2]
    · exact absurd (by rw [← h1, e]; exact List.mem_map_of_mem h2) h.1
  · rcases List.mem_cons.1 hy with h2 | h2
    · exact absurd (by rw [← h2, ← e]; exact List.mem_map_of_mem h1) h.1
    · exact ih h.2 x h1 y h2 e
theorem actOf_mem {F : List KFact} (h : NoTwice F) {x : KFact} (hx : x ∈ F) : actOf F x.ref = x.act := by
 unfold actOf
 cases e : F.find? (fun y => y.ref == x.ref) with
 | none => have := List.find?_eq_none.1 e x hx; simp at this
 | some y =>
  have h1 := List.mem_of_find?_eq_some e
  have h2 := List.find?_some e
  simp only [beq_iff_eq] at h2
  rw [noTwice_unique h y h1 x hx h2]
  rfl
theorem block_congr {F F' : List KFact} {D D' : List Int} {d : Int} (hF : F.map (fun x => (x.ref, x.act)) = F'.map (fun x => (x.ref, x.act))) (hD : ∀ i : Nat, D[i]? = some d ↔ D'[i]? = some d) : blockM F D d = blockM F' D' d := by
 have hget : ∀ (i : Nat), (F[i]?.map (fun x => (x.ref, x.act))) = (F'[i]?.map (fun x => (x.ref, x.act))) := fun i => by
  have := congrArg (fun l => l[i]?) hF
  simpa using this
 have hr : sortK (refsAt F D d) = sortK (refsAt F' D' d) := sortK_congr (fun r => by
  rw [mem_refsAt, mem_refsAt]
  constructor
  · rintro ⟨i, x, h1, h2, h3⟩
    have := hget i
    rw [h1] at this
    cases e : F'[i]? with
    | none => rw [e] at this; cases this
    | some y => rw [e] at this; simp only [Option.map_some, Option.some.injEq, Prod.mk.injEq] at this; exact ⟨i, y, e, (hD i).1 h2, this.1.symm.trans h3⟩
  · rintro ⟨i, x, h1, h2, h3⟩
    have := hget i
    rw [h1] at this
    cases e : F[i]? with
    | none => rw [e] at this; cases this
    | some y => rw [e] at this; simp only [Option.map_some, Option.some.injEq, Prod.mk.injEq] at this; exact ⟨i, y, e, (hD i).2 h2, this.1.trans h3⟩)
 have ha : actOf F = actOf F' := by
  funext r
  have key : ∀ G : List KFact, actOf G r = (((G.map (fun x => (x.ref, x.act))).find? (fun p => p.1 == r)).map (·.2)).getD 0 := fun G => by
   unfold actOf
   rw [List.find?_map, Option.map_map]
   rfl
  rw [key, key, hF]
 unfold blockM
 rw [hr, ha]
theorem blocks_congr {F F' : List KFact} {D D' : List Int} {n : Nat} (hF : F.map (fun x => (x.ref, x.act)) = F'.map (fun x => (x.ref, x.act))) (hD : ∀ (d : Nat), d < n → ∀ i : Nat, D[i]? = some (d : Int) ↔ D'[i]? = some (d : Int)) : blocks F D n = blocks F' D' n := by
 induction n with
 | zero => rfl
 | succ n ih => rw [blocks_succ, blocks_succ, ih (fun d hd => hD d (by omega)), block_congr hF (hD n (by omega))]
theorem noTwice_congr {F F' : List KFact} (hF : F.map (fun x => (x.ref, x.act)) = F'.map (fun x => (x.ref, x.act))) : NoTwice F ↔ NoTwice F' := by
 have := congrArg (List.map (·.1)) hF
 rw [List.map_map, List.map_map] at this
 unfold NoTwice
 rw [show F.map (·.ref) = F'.map (·.ref) from this]
theorem traceM_congr {F F' : List KFact} {D D' : List Int} {u : Int} (hF : F.map (fun x => (x.ref, x.act)) = F'.map (fun x => (x.ref, x.act))) (hl : D.length = D'.length) (hD : ∀ (d : Nat), (d : Int) < u → ∀ i : Nat, D[i]? = some (d : Int) ↔ D'[i]? = some (d : Int)) : traceM F D u = traceM F' D' u := by
 have h1 : F.length = F'.length := by have := congrArg List.length hF; simpa using this
 unfold traceM
 rw [h1, hl]
 by_cases h : F'.length = D'.length ∧ 0 ≤ u ∧ u ≤ 2000 ∧ NoTwice F'
 · rw [if_pos h, if_pos ⟨h.1, h.2.1, h.2.2.1, (noTwice_congr hF).2 h.2.2.2⟩]
   exact blocks_congr hF (fun d hd => hD d (by omega))
 · rw [if_neg h, if_neg (fun k => h ⟨k.1, k.2.1, k.2.2.1, (noTwice_congr hF).1 k.2.2.2⟩)]
def beginM : List Int → Int → List Int
 | [], _ => []
 | a :: l, n => if 0 < n then a :: beginM l (if a = -1 then n - 1 else n) else []
theorem beginM_acts (A : List Int) (hA : ∀ a ∈ A, a ≠ -1) (r : List Int) (n : Int) (hn : 0 < n) : beginM (A ++ (-1) :: r) n = A ++ (-1) :: beginM r (n - 1) := by
 induction A with
 | nil => simp [beginM, hn]
 | cons a l ih =>
  rw [List.cons_append, beginM, if_pos hn, if_neg (hA a (by simp)), ih (fun x hx => hA x (List.mem_cons_of_mem _ hx))]
  rfl
theorem beginM_zero (l : List Int) : beginM l 0 = [] := by cases l <;> simp [beginM]
def ActsOk (F : List KFact) : Prop := ∀ x ∈ F, 0 ≤ x.act
theorem block_acts {F : List KFact} (h : ActsOk F) (hn : NoTwice F) (D : List Int) (d : Int) : ∀ a ∈ (sortK (refsAt F D d)).map (actOf F), a ≠ -1 := fun a ha => by
 obtain ⟨r, hr, rfl⟩ := List.mem_map.1 ha
 rw [sortK_mem, mem_refsAt] at hr
 obtain ⟨i, x, h1, _, rfl⟩ := hr
 have hx := List.mem_of_getElem? h1
 rw [actOf_mem hn hx]
 have := h x hx
 omega
theorem flat_begin {f : Int → List Int} (hf : ∀ d, ∀ a ∈ f d, a ≠ -1) : ∀ (n m k : Nat), k ≤ m → beginM ((List.range' n m).flatMap (fun d : Nat => f (d : Int) ++ [-1])) k = (List.range' n k).flatMap (fun d : Nat => f (d : Int) ++ [-1])
 | n, m, 0, _ => by simp [beginM_zero]
 | n, 0, k + 1, h => by omega
 | n, m + 1, k + 1, h => by
  rw [List.range'_succ, List.range'_succ, List.flatMap_cons, List.flatMap_cons, List.append_assoc, List.singleton_append, beginM_acts _ (hf n) _ _ (by omega), show ((k + 1 : Nat) : Int) - 1 = (k : Int) by omega, flat_begin hf (n + 1) m k (by omega), List.append_assoc, List.singleton_append]
theorem blocks_begin {F : List KFact} (h : ActsOk F) (hn : NoTwice F) (D : List Int) {e l : Nat} (hel : e ≤ l) : beginM (blocks F D l) e = blocks F D e := by
 unfold blocks blockM
 rw [List.range_eq_range', List.range_eq_range']
 exact flat_begin (f := fun d => (sortK (refsAt F D d)).map (actOf F)) (fun d => block_acts h hn D d) 0 l e hel
theorem insK_perm {x : Int} : ∀ {l : List Int}, x ∉ l → (insK x l).Perm (x :: l)
 | [], _ => .refl _
 | k :: l, h => by
  unfold insK
  by_cases h1 : x < k
  · rw [if_pos h1]
  · rw [if_neg h1, if_neg (fun e => h (by rw [e]; simp))]
    exact ((insK_perm (fun e => h (List.mem_cons_of_mem _ e))).cons k).trans (List.Perm.swap x k l)
theorem sortK_perm {l : List Int} (h : l.Nodup) : (sortK l).Perm l := by
 induction l using snocInd with
 | h0 => exact .refl _
 | h1 l x ih =>
  rw [List.nodup_append] at h
  rw [sortK_snoc]
  have hx : x ∉ sortK l := fun e => h.2.2 x ((sortK_mem l x).1 e) x (by simp) rfl
  exact (insK_perm hx).trans (((ih h.1).cons x).trans (List.perm_append_singleton x l).symm)
theorem refsAt_nodup {F : List KFact} (h : NoTwice F) {D : List Int} (hl : F.length = D.length) (d : Int) : (refsAt F D d).Nodup := by
 unfold refsAt NoTwice at *
 have h1 : ((F.zip D).map (fun p => p.1.ref)).Nodup := by
  have : (F.zip D).map (fun p => p.1.ref) = ((F.zip D).map (·.1)).map (·.ref) := by rw [List.map_map]; rfl
  rw [this, List.map_fst_zip (by omega)]
  exact h
 exact h1.sublist (List.Sublist.map _ List.filter_sublist)
theorem countP_zip_snd : ∀ {F : List KFact} {D : List Int}, F.length = D.length → ∀ (q : Int → Bool), (F.zip D).countP (fun p => q p.2) = D.countP q
 | [], [], _, _ => rfl
 | _ :: _, [], h, _ => by simp at h
 | [], _ :: _, h, _ => by simp at h
 | x :: F, d :: D, h, q => by
  rw [List.zip_cons_cons, List.countP_cons, List.countP_cons, countP_zip_snd (by simpa using h) q]
theorem block_length {F : List KFact} {D : List Int} (hl : F.length = D.length) (h : NoTwice F) (d : Int) : (blockM F D d).length = D.countP (· == d) + 1 := by
 unfold blockM
 rw [List.length_append, List.length_map, (sortK_perm (refsAt_nodup h hl d)).length_eq]
 unfold refsAt
 rw [List.length_map, ← List.countP_eq_length_filter, countP_zip_snd hl (fun e => e == d)]
 rfl
theorem countP_lt_succ (D : List Int) (n : Nat) : D.countP (fun e => decide (0 ≤ e) && decide (e < ((n + 1 : Nat) : Int))) = D.countP (fun e => decide (0 ≤ e) && decide (e < (n : Int))) + D.countP (· == (n : Int)) := by
 induction D with
 | nil => rfl
 | cons e D ih =>
  rw [List.countP_cons, List.countP_cons, List.countP_cons, ih]
  have : (if (decide (0 ≤ e) && decide (e < ((n + 1 : Nat) : Int))) = true then 1 else 0) = (if (decide (0 ≤ e) && decide (e < (n : Int))) = true then 1 else 0) + (if (e == (n : Int)) = true then 1 else 0) := by
   simp only [Bool.and_eq_true, decide_eq_true_eq, beq_iff_eq]
   by_cases h1 : 0 ≤ e ∧ e < ((n + 1 : Nat) : Int)
   · rw [if_pos h1]
     by_cases h2 : e = n
     · rw [if_neg (by omega), if_pos h2]
     · rw [if_pos (by omega), if_neg h2]
   · rw [if_neg h1, if_neg (by omega), if_neg (by omega)]
  omega
theorem blocks_length {F : List KFact} {D : List Int} (hl : F.length = D.length) (h : NoTwice F) (n : Nat) : (blocks F D n).length = D.countP (fun e => decide (0 ≤ e) && decide (e < (n : Int))) + n := by
 induction n with
 | zero =>
  have : D.countP (fun e => decide (0 ≤ e) && decide (e < ((0 : Nat) : Int))) = 0 := by
   rw [List.countP_eq_zero]; intro e _; simp only [Bool.and_eq_true, decide_eq_true_eq]; omega
  rw [this]; rfl
 | succ n ih => rw [blocks_succ, List.length_append, ih, block_length hl h, countP_lt_succ]; omega
theorem traceM_reverse {F : List KFact} {D : List Int} (hl : F.length = D.length) (u : Int) : traceM F.reverse D.reverse u = traceM F D u := by
 have hn : NoTwice F.reverse ↔ NoTwice F := by unfold NoTwice; rw [List.map_reverse]; exact (List.reverse_perm _).nodup_iff
 unfold traceM
 rw [List.length_reverse, List.length_reverse]
 by_cases h : F.length = D.length ∧ 0 ≤ u ∧ u ≤ 2000 ∧ NoTwice F
 · rw [if_pos h, if_pos ⟨h.1, h.2.1, h.2.2.1, hn.2 h.2.2.2⟩]
   have hb : ∀ d, blockM F.reverse D.reverse d = blockM F D d := fun d => by
    unfold blockM
    have key : ∀ {G : List KFact} {E : List Int} {r : Int}, G.length = E.length → r ∈ refsAt G E d → r ∈ refsAt G.reverse E.reverse d := fun {G E r} hg hr => by
     rw [mem_refsAt] at hr ⊢
     obtain ⟨i, x, h1, h2, h3⟩ := hr
     have hi := (List.getElem?_eq_some_iff.1 h1).1
     refine ⟨G.length - 1 - i, x, ?_, ?_, h3⟩
     · rw [List.getElem?_reverse (by omega), show G.length - 1 - (G.length - 1 - i) = i by omega]; exact h1
     · rw [List.getElem?_reverse (by omega), show E.length - 1 - (G.length - 1 - i) = i by omega]; exact h2
    have hr : sortK (refsAt F.reverse D.reverse d) = sortK (refsAt F D d) := sortK_congr (fun r => ⟨fun h => by
     have := key (by rw [List.length_reverse, List.length_reverse]; exact hl) h
     rwa [List.reverse_reverse, List.reverse_reverse] at this, fun h => key hl h⟩)
    rw [hr]
    congr 1
    refine List.map_congr_left fun r hr => ?_
    rw [sortK_mem, mem_refsAt] at hr
    obtain ⟨i, x, h1, _, rfl⟩ := hr
    have hx := List.mem_of_getElem? h1
    rw [actOf_mem h.2.2.2 hx, actOf_mem (hn.2 h.2.2.2) (List.mem_reverse.2 hx)]
   unfold blocks
   simp only [hb]
 · rw [if_neg h, if_neg (fun k => h ⟨k.1, k.2.1, k.2.2.1, hn.1 k.2.2.2⟩)]
def onDay (d a : Int) : Int → List Int → Nat
 | _, [] => 0
 | day, x :: l => (if day = d ∧ x = a ∧ a ≠ -1 then 1 else 0) + onDay d a (if x = -1 then day + 1 else day) l
theorem onDay_acts (d a : Int) (ha : a ≠ -1) : ∀ (day : Int) (A r : List Int), (∀ x ∈ A, x ≠ -1) → onDay d a day (A ++ (-1) :: r) = (if day = d then A.countP (· == a) else 0) + onDay d a (day + 1) r
 | day, [], r, _ => by
  show (if day = d ∧ (-1 : Int) = a ∧ a ≠ -1 then 1 else 0) + onDay d a (if (-1 : Int) = -1 then day + 1 else day) r = _
  rw [if_neg (fun h => ha h.2.1.symm), if_pos rfl]
  simp
 | day, x :: A, r, h => by
  show (if day = d ∧ x = a ∧ a ≠ -1 then 1 else 0) + onDay d a (if x = -1 then day + 1 else day) (A ++ (-1) :: r) = _
  rw [if_neg (h x (by simp)), onDay_acts d a ha day A r (fun y hy => h y (List.mem_cons_of_mem _ hy)), List.countP_cons]
  by_cases h1 : day = d
  · rw [if_pos h1, if_pos h1]
    by_cases h2 : x = a
    · rw [if_pos ⟨h1, h2, ha⟩, if_pos (by simpa using h2)]; omega
    · rw [if_neg (fun k => h2 k.2.1), if_neg (by simpa using h2)]; omega
  · rw [if_neg (fun k => h1 k.1), if_neg h1, if_neg h1]; omega
theorem onDay_flat {f : Int → List Int} (hf : ∀ d, ∀ a ∈ f d, a ≠ -1) (d a : Int) (ha : a ≠ -1) : ∀ (m n : Nat), onDay d a n ((List.range' n m).flatMap (fun e : Nat => f (e : Int) ++ [-1])) = if (n : Int) ≤ d ∧ d < (n + m : Nat) then (f d).countP (· == a) else 0
 | 0, n => by rw [if_neg (by omega)]; rfl
 | m + 1, n => by
  rw [List.range'_succ, List.flatMap_cons, List.append_assoc, List.singleton_append, onDay_acts d a ha _ _ _ (hf n)]
  have := onDay_flat hf d a ha m (n + 1)
  rw [show ((n : Int) + 1) = ((n + 1 : Nat) : Int) by omega, this]
  by_cases h : (n : Int) = d
  · rw [if_pos h, if_neg (by omega), if_pos (by omega), h]
    omega
  · rw [if_neg h]
    by_cases h2 : ((n + 1 : Nat) : Int) ≤ d ∧ d < ((n + 1 + m : Nat) : Int)
    · rw [if_pos h2, if_pos (by omega)]; omega
    · rw [if_neg h2, if_neg (by omega)]
theorem blocks_onDay {F : List KFact} {D : List Int} (hl : F.length = D.length) (h : ActsOk F) (hn : NoTwice F) (n : Nat) (d a : Int) (ha : a ≠ -1) (h0 : 0 ≤ d) (h1 : d < n) : onDay d a 0 (blocks F D n) = (F.zip D).countP (fun p => (p.1.act == a) && (p.2 == d)) := by
 unfold blocks blockM
 rw [List.range_eq_range']
 have := onDay_flat (f := fun d => (sortK (refsAt F D d)).map (actOf F)) (fun d => block_acts h hn D d) d a ha n 0
 rw [show ((0 : Nat) : Int) = 0 from rfl] at this
 rw [this, if_pos (by omega)]
 rw [List.countP_map, (sortK_perm (refsAt_nodup hn hl d)).countP_eq]
 unfold refsAt
 rw [List.countP_map, List.countP_filter]
 refine List.countP_congr fun p hp => ?_
 have hx : p.1 ∈ F := (List.of_mem_zip (show (p.1, p.2) ∈ F.zip D from hp)).1
 simp only [Function.comp, actOf_mem hn hx]
structure Bnd (n : Nat) (lo hi : Nat → Int) (P : List (Nat × Nat)) : Prop where
 le : ∀ i, i < n → lo i ≤ hi i
 clL : ∀ p ∈ P, lo p.1 ≤ lo p.2
 clH : ∀ p ∈ P, hi p.1 ≤ hi p.2
 inn : ∀ p ∈ P, p.1 < n ∧ p.2 < n
structure Val (n : Nat) (lo hi : Nat → Int) (P : List (Nat × Nat)) (d : Nat → Int) : Prop where
 lo : ∀ i, i < n → lo i ≤ d i
 hi : ∀ i, i < n → d i ≤ hi i
 ord : ∀ p ∈ P, d p.1 ≤ d p.2
def setAt (f : Nat → Int) (a : Nat) (v : Int) : Nat → Int := fun i => if i = a then v else f i
theorem setAt_same (f : Nat → Int) (a : Nat) (v : Int) : setAt f a v a = v := by unfold setAt; rw [if_pos rfl]
theorem setAt_other (f : Nat → Int) {a x : Nat} (v : Int) (h : x ≠ a) : setAt f a v x = f x := by unfold setAt; rw [if_neg h]
structure Up (n : Nat) (lo hi : Nat → Int) (P : List (Nat × Nat)) (a : Nat) (v : Int) (lo' : Nat → Int) (later : List Nat) : Prop where
 nd : later.Nodup
 lt : ∀ x ∈ later, x < n
 has : a ∈ later
 vat : lo' a = v
 ge : ∀ x, lo x ≤ lo' x
 alt : ∀ x, lo' x = lo x ∨ (lo' x = v ∧ lo x < v)
 hv : ∀ x ∈ later, v ≤ lo' x ∧ v ≤ hi x
 chg : ∀ x, lo' x ≠ lo x → x ∈ later
 val : ∀ d, Val n lo hi P d → d a = v → ∀ x, x < n → lo' x ≤ d x
theorem Up.start {n : Nat} {lo hi : Nat → Int} {P : List (Nat × Nat)} {a : Nat} {v : Int} (ha : a < n) (h1 : lo a ≤ v) (h2 : v ≤ hi a) : Up n lo hi P a v (setAt lo a v) [a] := by
 have hx : ∀ x, setAt lo a v x = if x = a then v else lo x := fun _ => rfl
 refine ⟨by simp, fun x h => by rw [List.mem_singleton.1 h]; exact ha, by simp, setAt_same _ _ _, fun x => ?_, fun x => ?_, fun x h => ?_, fun x h => ?_, fun d hd he x hxn => ?_⟩
 · rw [hx]; by_cases e : x = a
   · rw [if_pos e, e]; exact h1
   · rw [if_neg e]; exact Int.le_refl _
 · rw [hx]; by_cases e : x = a
   · rw [if_pos e, e]; by_cases e2 : lo a = v
     · exact .inl e2.symm
     · exact .inr ⟨rfl, by omega⟩
   · rw [if_neg e]; exact .inl rfl
 · rw [List.mem_singleton.1 h, setAt_same]; exact ⟨Int.le_refl _, h2⟩
 · rw [hx] at h; by_cases e : x = a
   · rw [e]; simp
   · rw [if_neg e] at h; exact absurd rfl h
 · rw [hx]; by_cases e : x = a
   · rw [if_pos e, e, he]; exact Int.le_refl _
   · rw [if_neg e]; exact hd.lo x hxn
theorem Up.step {n : Nat} {lo hi : Nat → Int} {P : List (Nat × Nat)} {a : Nat} {v : Int} {lo' : Nat → Int} {later : List Nat} (h : Up n lo hi P a v lo' later) (hB : Bnd n lo hi P) {y b : Nat} (hy : y ∈ later) (hp : (y, b) ∈ P) :
 (v ≤ lo' b ∧ max (lo' b) v = lo' b) ∨ (lo' b < v ∧ max (lo' b) v = v ∧ b ∉ later ∧ Up n lo hi P a v (setAt lo' b v) (later ++ [b])) := by
 by_cases c : v ≤ lo' b
 · exact .inl ⟨c, by omega⟩
 · have hb : b ∉ later := fun e => c (h.hv b e).1
   have e0 : lo' b = lo b := by
    rcases h.alt b with e | ⟨e, _⟩
    · exact e
    · omega
   have hx : ∀ x, setAt lo' b v x = if x = b then v else lo' x := fun _ => rfl
   have hab : a ≠ b := fun e => hb (e ▸ h.has)
   refine .inr ⟨by omega, by omega, hb, ?_, fun x hx' => ?_, List.mem_append.2 (.inl h.has), by rw [setAt_other _ _ hab]; exact h.vat, fun x => ?_, fun x => ?_, fun x hx' => ?_, fun x hx' => ?_, fun d hd he x hxn => ?_⟩
   · rw [List.nodup_append]
     exact ⟨h.nd, by simp, fun x h1 y h2 => by rw [List.mem_singleton.1 h2]; exact fun e => hb (e ▸ h1)⟩
   · rcases List.mem_append.1 hx' with k | k
     · exact h.lt x k
     · rw [List.mem_singleton.1 k]; exact (hB.inn _ hp).2
   · rw [hx]; by_cases e : x = b
     · rw [if_pos e, e]; omega
     · rw [if_neg e]; exact h.ge x
   · rw [hx]; by_cases e : x = b
     · rw [if_pos e, e]; exact .inr ⟨rfl, by omega⟩
     · rw [if_neg e]; exact h.alt x
   · rw [hx]; by_cases e : x = b
     · rw [if_pos e, e]
       have k1 := (h.hv y hy).2
       have k2 := hB.clH _ hp
       simp only at k2
       exact ⟨Int.le_refl _, by omega⟩
     · rw [if_neg e]
       rcases List.mem_append.1 hx' with k | k
       · exact h.hv x k
       · exact absurd (List.mem_singleton.1 k) e
   · rw [hx] at hx'; by_cases e : x = b
     · rw [e]; simp
     · rw [if_neg e] at hx'; exact List.mem_append.2 (.inl (h.chg x hx'))
   · rw [hx]; by_cases e : x = b
     · rw [if_pos e, e]
       have k1 := h.val d hd he y (h.lt y hy)
       have k2 := (h.hv y hy).1
       have k3 := hd.ord _ hp
       simp only at k3
       omega
     · rw [if_neg e]; exact h.val d hd he x hxn
theorem Up.closed {n : Nat} {lo hi : Nat → Int} {P : List (Nat × Nat)} {a : Nat} {v : Int} {lo' : Nat → Int} {later : List Nat} (h : Up n lo hi P a v lo' later) (hB : Bnd n lo hi P) (hd : ∀ y ∈ later, ∀ b, (y, b) ∈ P → v ≤ lo' b) : ∀ p ∈ P, lo' p.1 ≤ lo' p.2 := fun p hp => by
 rcases h.alt p.1 with e | ⟨e, e2⟩
 · rw [e]; exact Int.le_trans (hB.clL p hp) (h.ge _)
 · rw [e]; exact hd p.1 (h.chg _ (by omega)) p.2 hp
theorem nodup_le : ∀ (n : Nat) (l : List Nat), l.Nodup → (∀ x ∈ l, x < n) → l.length ≤ n
 | 0, l, _, h => by
  cases l with
  | nil => exact Nat.le_refl _
  | cons a l => exact absurd (h a (by simp)) (by omega)
 | n + 1, l, hd, h => by
  by_cases c : n ∈ l
  · have h1 := nodup_le n (l.erase n) (hd.erase n) (fun x hx => by
     have := (hd.mem_erase_iff).1 hx
     have := h x this.2
     omega)
    rw [List.length_erase_of_mem c] at h1
    omega
  · have := nodup_le n l hd (fun x hx => by
     have := h x hx
     have : x ≠ n := fun e => c (e ▸ hx)
     omega)
    omega
theorem Up.length {n : Nat} {lo hi : Nat → Int} {P : List (Nat × Nat)} {a : Nat} {v : Int} {lo' : Nat → Int} {later : List Nat} (h : Up n lo hi P a v lo' later) : later.length ≤ n := nodup_le n later h.nd h.lt
theorem chosen {n : Nat} {lo hi : Nat → Int} {P : List (Nat × Nat)} {a : Nat} {v : Int} {lo' hi' : Nat → Int} {later earlier : List Nat} (hB : Bnd n lo hi P) (ha : a < n)
 (hu : Up n lo hi P a v lo' later) (hud : ∀ y ∈ later, ∀ b, (y, b) ∈ P → v ≤ lo' b)
 (hw : Up n (fun i => - hi i) (fun i => - lo i) (P.map (fun p => (p.2, p.1))) a (-v) (fun i => - hi' i) earlier) (hwd : ∀ y ∈ earlier, ∀ b, (y, b) ∈ P.map (fun p => (p.2, p.1)) → -v ≤ - hi' b) :
 Bnd n lo' hi' P ∧ (∀ d, Val n lo' hi' P d ↔ (Val n lo hi P d ∧ d a = v)) ∧ lo' a = v ∧ hi' a = v ∧ ∀ i, lo i ≤ lo' i ∧ hi' i ≤ hi i := by
 have hBn : Bnd n (fun i => - hi i) (fun i => - lo i) (P.map (fun p => (p.2, p.1))) := by
  refine ⟨fun i hn => by have := hB.le i hn; omega, fun p hp => ?_, fun p hp => ?_, fun p hp => ?_⟩
  all_goals
   obtain ⟨q, hq, rfl⟩ := List.mem_map.1 hp
   simp only
  · have := hB.clH q hq; omega
  · have := hB.clL q hq; omega
  · exact ⟨(hB.inn q hq).2, (hB.inn q hq).1⟩
 have cl1 := hu.closed hB hud
 have cl2 : ∀ p ∈ P, hi' p.1 ≤ hi' p.2 := fun p hp => by
  have := hw.closed hBn hwd (p.2, p.1) (List.mem_map.2 ⟨p, hp, rfl⟩)
  simp only at this
  omega
 have e1 : lo' a = v := hu.vat
 have e2 : hi' a = v := by have := hw.vat; omega
 have g1 : ∀ i, lo i ≤ lo' i := hu.ge
 have g2 : ∀ i, hi' i ≤ hi i := fun i => by have := hw.ge i; omega
 have le' : ∀ i, i < n → lo' i ≤ hi' i := fun i hn => by
  have b0 := hB.le i hn
  rcases hu.alt i with k1 | ⟨k1, k2⟩
  · by_cases c : hi' i = - (- hi i)
    · omega
    · have c2 := hw.chg i (by omega)
      have c3 := (hw.hv i c2).2
      rcases hw.alt i with k3 | ⟨k3, k4⟩
      · omega
      · omega
  · have c1 := (hu.hv i (hu.chg i (by omega))).2
    rcases hw.alt i with k3 | ⟨k3, k4⟩
    · omega
    · omega
 refine ⟨⟨le', cl1, cl2, hB.inn⟩, fun d => ⟨fun hd => ?_, fun ⟨hd, he⟩ => ?_⟩, e1, e2, fun i => ⟨g1 i, g2 i⟩⟩
 · refine ⟨⟨fun i hn => Int.le_trans (g1 i) (hd.lo i hn), fun i hn => Int.le_trans (hd.hi i hn) (g2 i), hd.ord⟩, ?_⟩
   have := hd.lo a ha
   have := hd.hi a ha
   omega
 · have hdn : Val n (fun i => - hi i) (fun i => - lo i) (P.map (fun p => (p.2, p.1))) (fun i => - d i) := by
    refine ⟨fun i hn => by have := hd.hi i hn; omega, fun i hn => by have := hd.lo i hn; omega, fun p hp => ?_⟩
    obtain ⟨q, hq, rfl⟩ := List.mem_map.1 hp
    have := hd.ord q hq
    simp only
    omega
   exact ⟨fun i hn => hu.val d hd he i hn, fun i hn => by have := hw.val _ hdn (by omega) i hn; omega, hd.ord⟩
structure IsEnum (n : Nat) (lo hi : Nat → Int) (P : List (Nat × Nat)) (Y : List (List Int)) : Prop where
 sorted : Y.Pairwise lexLt
 mem : ∀ l, l ∈ Y ↔ l.length = n ∧ Val n lo hi P (fun i => l.getD i 0)
structure EnumTo (n : Nat) (lo hi : Nat → Int) (P : List (Nat × Nat)) (k : Nat) (v : Int) (Y : List (List Int)) : Prop where
 sorted : Y.Pairwise lexLt
 mem : ∀ l, l ∈ Y ↔ (l.length = n ∧ Val n lo hi P (fun i => l.getD i 0)) ∧ l.getD k 0 < v
theorem lexLt_of : ∀ {l m : List Int} {k : Nat}, k < l.length → l.length = m.length → (∀ i, i < k → l.getD i 0 = m.getD i 0) → l.getD k 0 < m.getD k 0 → lexLt l m
 | [], _, _, h, _, _, _ => by simp at h
 | a :: l, [], _, _, h, _, _ => by simp at h
 | a :: l, b :: m, 0, _, _, _, h => .inl (by simpa using h)
 | a :: l, b :: m, k + 1, h1, h2, h3, h4 => by
  have e := h3 0 (by omega)
  simp only [List.getD_cons_zero] at e
  refine .inr ⟨e, lexLt_of (k := k) (by simpa using h1) (by simpa using h2) (fun i hi => ?_) (by simpa using h4)⟩
  have := h3 (i + 1) (by omega)
  simpa using this
theorem list_of_getD {l m : List Int} (h : l.length = m.length) (he : ∀ i, i < l.length → l.getD i 0 = m.getD i 0) : l = m := by
 refine List.ext_getElem h fun i h1 h2 => ?_
 have := he i h1
 rw [List.getD_eq_getElem?_getD, List.getD_eq_getElem?_getD, List.getElem?_eq_getElem h1, List.getElem?_eq_getElem h2] at this
 exact this
theorem IsEnum.one {n : Nat} {lo hi : Nat → Int} {P : List (Nat × Nat)} (hB : Bnd n lo hi P) (h : ∀ i, i < n → lo i = hi i) {l : List Int} (hl : l.length = n) (he : ∀ i, i < n → l.getD i 0 = lo i) : IsEnum n lo hi P [l] := by
 refine ⟨by simp, fun m => ?_⟩
 rw [List.mem_singleton]
 constructor
 · rintro rfl
   exact ⟨hl, fun i hi' => by rw [he i hi']; exact Int.le_refl _, fun i hi' => by rw [he i hi', h i hi']; exact Int.le_refl _, fun p hp => by rw [he _ (hB.inn p hp).1, he _ (hB.inn p hp).2]; exact hB.clL p hp⟩
 · rintro ⟨h1, h2⟩
   refine list_of_getD (h1.trans hl.symm) (fun i hi' => ?_)
   have a1 := h2.lo i (by omega)
   have a2 := h2.hi i (by omega)
   have a3 := h i (by omega)
   rw [he i (by omega)]
   omega
theorem EnumTo.start (n : Nat) (lo hi : Nat → Int) (P : List (Nat × Nat)) {k : Nat} (hk : k < n) : EnumTo n lo hi P k (lo k) [] :=
 ⟨List.Pairwise.nil, fun l => ⟨fun h => (by cases h), fun ⟨⟨_, h⟩, h2⟩ => by have := h.lo k hk; omega⟩⟩
theorem EnumTo.step {n : Nat} {lo hi : Nat → Int} {P : List (Nat × Nat)} {k : Nat} {v : Int} {Y Z : List (List Int)} (h : EnumTo n lo hi P k v Y) (hk : k < n) (hs : ∀ i, i < k → lo i = hi i) {lo' hi' : Nat → Int} (hZ : IsEnum n lo' hi' P Z) (hv : ∀ d, Val n lo' hi' P d ↔ (Val n lo hi P d ∧ d k = v)) : EnumTo n lo hi P k (v + 1) (Y ++ Z) := by
 refine ⟨?_, fun l => ?_⟩
 · rw [List.pairwise_append]
   refine ⟨h.sorted, hZ.sorted, fun l hl m hm => ?_⟩
   obtain ⟨⟨l1, l2⟩, l3⟩ := (h.mem l).1 hl
   obtain ⟨m1, m2⟩ := (hZ.mem m).1 hm
   obtain ⟨m3, m4⟩ := (hv _).1 m2
   refine lexLt_of (k := k) (by omega) (by omega) (fun i hi' => ?_) (by omega)
   have a1 := l2.lo i (by omega)
   have a2 := l2.hi i (by omega)
   have a3 := m3.lo i (by omega)
   have a4 := m3.hi i (by omega)
   have a5 := hs i hi'
   omega
 · rw [List.mem_append, h.mem, hZ.mem, hv]
   constructor
   · rintro (⟨h1, h2⟩ | ⟨h1, h2, h3⟩)
     · exact ⟨h1, by omega⟩
     · exact ⟨⟨h1, h2⟩, by omega⟩
   · rintro ⟨⟨h1, h2⟩, h3⟩
     by_cases c : l.getD k 0 < v
     · exact .inl ⟨⟨h1, h2⟩, c⟩
     · exact .inr ⟨h1, h2, by omega⟩
theorem EnumTo.done {n : Nat} {lo hi : Nat → Int} {P : List (Nat × Nat)} {k : Nat} {Y : List (List Int)} (h : EnumTo n lo hi P k (hi k + 1) Y) (hk : k < n) : IsEnum n lo hi P Y :=
 ⟨h.sorted, fun l => (h.mem l).trans ⟨fun h1 => h1.1, fun h1 => ⟨h1, by have := h1.2.hi k hk; omega⟩⟩⟩
def idxOf (T : List KFact) (r : Int) : Nat := T.findIdx (fun x => x.ref == r)
def pairsOf (T : List KFact) (OO : List KBef) : List (Nat × Nat) := OO.map (fun b => (idxOf T b.ref, idxOf T b.next))
theorem idxOf_get {T : List KFact} (h : Distinct T) {i : Nat} {t : KFact} (ht : T[i]? = some t) : idxOf T t.ref = i := by
 obtain ⟨hi, rfl⟩ := List.getElem?_eq_some_iff.1 ht
 unfold idxOf
 have h1 : T.findIdx (fun x => x.ref == T[i].ref) < T.length := List.findIdx_lt_length.2 ⟨T[i], List.getElem_mem hi, by simp⟩
 have h2 := List.findIdx_getElem (w := h1)
 simp only [beq_iff_eq] at h2
 have h3 := map_pairwise_unique h _ (List.getElem_mem h1) _ (List.getElem_mem hi) h2
 have hm : ∀ (j : Nat) (hj : j < T.length), (T.map (·.ref))[j]'(by rw [List.length_map]; exact hj) = T[j].ref := fun j hj => List.getElem_map _
 rcases Nat.lt_trichotomy (T.findIdx (fun x => x.ref == T[i].ref)) i with c | c | c
 · have := (List.pairwise_iff_getElem.1 h) _ i (by rw [List.length_map]; exact h1) (by rw [List.length_map]; exact hi) c
   rw [hm _ h1, hm i hi, h2] at this
   omega
 · exact c
 · have := (List.pairwise_iff_getElem.1 h) i _ (by rw [List.length_map]; exact hi) (by rw [List.length_map]; exact h1) c
   rw [hm _ h1, hm i hi, h2] at this
   omega
def loU (T : List KFact) (u : Int) (i : Nat) : Int := min ((T.map (·.low)).getD i 0) u
def hiU (T : List KFact) (u : Int) (i : Nat) : Int := min ((T.map (·.high)).getD i 0) u
theorem getD_map {α : Type} {T : List α} {g : α → Int} {i : Nat} {t : α} (h : T[i]? = some t) : (T.map g).getD i 0 = g t := by
 rw [List.getD_eq_getElem?_getD, List.getElem?_map, h]; rfl
theorem Bnd.of_tight {F T : List KFact} {OO : List KBef} (h : Tight F T OO) (hd : Distinct F) (hk : Known F OO) (hl : ∀ t ∈ T, t.low ≤ t.high) (u : Int) : Bnd T.length (loU T u) (hiU T u) (pairsOf T OO) := by
 have hp : ∀ p ∈ pairsOf T OO, ∃ b ∈ OO, ∃ (i j : Nat) (x y : KFact), p = (i, j) ∧ T[i]? = some x ∧ T[j]? = some y ∧ x.ref = b.ref ∧ y.ref = b.next := fun p hp => by
  obtain ⟨b, hb, rfl⟩ := List.mem_map.1 hp
  obtain ⟨⟨x, hx, e1⟩, y, hy, e2⟩ := h.known hk b hb
  obtain ⟨i, hi⟩ := List.getElem?_of_mem hx
  obtain ⟨j, hj⟩ := List.getElem?_of_mem hy
  exact ⟨b, hb, i, j, x, y, by rw [← e1, ← e2, idxOf_get (h.distinct hd) hi, idxOf_get (h.distinct hd) hj], hi, hj, e1, e2⟩
 refine ⟨fun i hi => ?_, fun p hq => ?_, fun p hq => ?_, fun p hq => ?_⟩
 · unfold loU hiU
   have e : T[i]? = some T[i] := List.getElem?_eq_getElem hi
   rw [getD_map e, getD_map e]
   have := hl _ (List.getElem_mem hi)
   omega
 all_goals
  obtain ⟨b, hb, i, j, x, y, rfl, hi, hj, e1, e2⟩ := hp p hq
  have mx := List.mem_of_getElem? hi
  have my := List.mem_of_getElem? hj
 · unfold loU
   simp only
   rw [getD_map hi, getD_map hj]
   have := h.cloL b hb x mx y my e1 e2
   omega
 · unfold hiU
   simp only
   rw [getD_map hi, getD_map hj]
   have := h.cloH b hb x mx y my e1 e2
   omega
 · exact ⟨(List.getElem?_eq_some_iff.1 hi).1, (List.getElem?_eq_some_iff.1 hj).1⟩
theorem IsEnum.choices {F T : List KFact} {OO : List KBef} {u : Int} {Y : List (List Int)} (h : Tight F T OO) (hd : Distinct F) (hk : Known F OO) (hY : IsEnum T.length (loU T u) (hiU T u) (pairsOf T OO) Y) : IsChoices T OO u Y := by
 have dT := h.distinct hd
 refine ⟨hY.sorted, fun l => (hY.mem l).trans ⟨fun ⟨h1, h2⟩ => ?_, ?_⟩⟩
 · refine ⟨fun r => l.getD (idxOf T r) 0, ?_, fun t ht => ?_, fun t ht => ?_, fun b hb => ?_⟩
   · refine list_of_getD (by unfold daysOf; rw [List.length_map]; exact h1) (fun i hi => ?_)
     have e : T[i]? = some (T[i]'(by omega)) := List.getElem?_eq_getElem _
     unfold daysOf
     rw [getD_map e]
     show l.getD i 0 = l.getD (idxOf T (T[i]'(by omega)).ref) 0
     rw [idxOf_get dT e]
   · obtain ⟨i, hi⟩ := List.getElem?_of_mem ht
     have := h2.lo i (List.getElem?_eq_some_iff.1 hi).1
     unfold loU at this
     rw [getD_map hi] at this
     rw [idxOf_get dT hi]
     exact this
   · obtain ⟨i, hi⟩ := List.getElem?_of_mem ht
     have := h2.hi i (List.getElem?_eq_some_iff.1 hi).1
     unfold hiU at this
     rw [getD_map hi] at this
     rw [idxOf_get dT hi]
     exact this
   · exact h2.ord _ (List.mem_map.2 ⟨b, hb, rfl⟩)
 · rintro ⟨day, rfl, h2⟩
   have hg : ∀ {i : Nat} {t : KFact}, T[i]? = some t → (daysOf T day).getD i 0 = day t.ref := fun hi => getD_map hi
   refine ⟨by unfold daysOf; rw [List.length_map], fun i hi => ?_, fun i hi => ?_, fun p hp => ?_⟩
   · have e : T[i]? = some T[i] := List.getElem?_eq_getElem hi
     unfold loU
     rw [getD_map e, hg e]
     exact h2.lo _ (List.getElem_mem hi)
   · have e : T[i]? = some T[i] := List.getElem?_eq_getElem hi
     unfold hiU
     rw [getD_map e, hg e]
     exact h2.hi _ (List.getElem_mem hi)
   · obtain ⟨b, hb, rfl⟩ := List.mem_map.1 hp
     obtain ⟨⟨x, hx, e1⟩, y, hy, e2⟩ := h.known hk b hb
     obtain ⟨i, hi⟩ := List.getElem?_of_mem hx
     obtain ⟨j, hj⟩ := List.getElem?_of_mem hy
     simp only
     rw [← e1, ← e2, idxOf_get dT hi, idxOf_get dT hj, hg hi, hg hj, e1, e2]
     exact h2.ord b hb
end Go.Proofs.YtahhdjeclbagnaaGreatDoor
