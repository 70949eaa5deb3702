/-
  CtL
-/
import Derived.Test.YtahhdjeclbagnaaGreatDoorQ39
import Derived.Test.YtahhdjeclbagnaaGreatDoorQ40
import Derived.Test.YtahhdjeclbagnaaGreatDoorQ37
namespace Go.Proofs.YtahhdjeclbagnaaGreatDoor
open Go.RowKit Go.Shelf
def onceStep (r : List (List Int)) (x : List Int) : List (List Int) := if x ∈ r then r else r ++ [x]
def onceM (l : List (List Int)) : List (List Int) := l.foldl onceStep []
theorem onceM_snoc (l : List (List Int)) (x : List Int) : onceM (l ++ [x]) = onceStep (onceM l) x := by unfold onceM; rw [List.foldl_append]; rfl
theorem onceM_mem (l : List (List Int)) (x : List Int) : x ∈ onceM l ↔ x ∈ l := by
 induction l using snocInd with
 | h0 => rfl
 | h1 l a ih =>
  rw [onceM_snoc, onceStep, List.mem_append, List.mem_singleton]
  by_cases h : a ∈ onceM l
  · rw [if_pos h, ih]
    constructor
    · exact .inl
    · rintro (h1 | rfl)
      · exact h1
      · exact ih.1 h
  · rw [if_neg h, List.mem_append, List.mem_singleton, ih]
theorem onceM_len (l : List (List Int)) : (onceM l).length ≤ l.length := by
 induction l using snocInd with
 | h0 => exact Nat.le_refl _
 | h1 l a ih =>
  rw [onceM_snoc, onceStep, List.length_append]
  split
  · omega
  · rw [List.length_append]; simp only [List.length_singleton]; omega
theorem trace_acts {F : List KFact} {D : List Int} {u : Int} {a : Int} (h : a ∈ traceM F D u) : a = -1 ∨ ∃ x ∈ F, x.act = a := by
 unfold traceM at h
 split at h
 · rename_i hc
   obtain ⟨d, _, hd⟩ := List.mem_flatMap.1 h
   unfold blockM at hd
   rcases List.mem_append.1 hd with hd | hd
   · obtain ⟨r, hr, rfl⟩ := List.mem_map.1 hd
     rw [sortK_mem, mem_refsAt] at hr
     obtain ⟨i, x, hi, _, rfl⟩ := hr
     have hx := List.mem_of_getElem? hi
     exact .inr ⟨x, hx, (actOf_mem hc.2.2.2 hx).symm⟩
   · exact .inl (List.mem_singleton.1 hd)
 · cases h
theorem trace_len {F : List KFact} {D : List Int} {u : Int} : (traceM F D u).length ≤ F.length + u.toNat := by
 unfold traceM
 split
 · rename_i hc
   exact blocks_short hc.1 hc.2.2.2 _
 · simp
def InT (l : List Int) : Prop := (textM l).length ≤ maxLen
def encT (l : List Int) : Lit := .string (textM l)
theorem encT_inj (x y : List Int) (_ : InT x) (_ : InT y) (h : encT x = encT y) : x = y := by
 unfold encT at h
 injection h with h
 exact textM_inj h
theorem lawT : Maps.Keyed Tryz.prog 9 := Maps.string_keyed Tryz.underlying9
theorem keyT {l : List Int} (hl : InT l) : keyOf Tryz.prog 9 (.string ⟨(textM l).toArray⟩) = some (encT l) := by
 have h := WideMaps.keyOf_string_mk (P := Tryz.prog) Tryz.underlying9 (s := ⟨(textM l).toArray⟩) (by unfold InT at hl; simpa [ByteArray.size] using hl)
 simpa [encT] using h
def setV (L : List (List Int)) (l : List Int) : Option Value := if l ∈ L then some (.bool true) else none
theorem setV_nil : setV [] = fun _ => none := by funext l; simp [setV]
theorem setV_snoc (L : List (List Int)) (x l : List Int) : (if l = x then some (Value.bool true) else setV L l) = setV (L ++ [x]) l := by
 unfold setV
 by_cases h : l = x
 · rw [if_pos h, if_pos (by simp [h])]
 · rw [if_neg h]
   by_cases h2 : l ∈ L
   · rw [if_pos h2, if_pos (by simp [h2])]
   · rw [if_neg h2, if_neg (by simp [h, h2])]
theorem rowAt_own {w : World} {B : Nat} {e : TypeId} {n c : Nat} {A : Option Addr} {xs : List Value} (h : w.ownsRow B e 1 (.slice A n c) n xs) (h1 : ∀ u ∈ xs, u.oneCell' = true) : At w 1 A n c xs := by
 have hl := h.1
 rcases own_of_row h with ⟨rfl, rfl, rfl⟩ | ⟨g, rfl, _, ho⟩
 · have e : xs = [] := List.eq_nil_of_length_eq_zero (by omega)
   subst e
   exact at_nilX _ _
 · refine ho.toAt hl h1 ?_ ?_
   · rcases h.2 with ⟨h2, _⟩ | ⟨_, _, _, h2, _, _, h3, _⟩
     · simp at h2
     · simp only [Value.slice.injEq] at h2; omega
   · rcases h.2 with ⟨h2, _⟩ | ⟨_, _, _, h2, _, _, _, h3, _⟩
     · simp at h2
     · simp only [Value.slice.injEq] at h2; omega
def ResAt (V : World) (b : Nat) (v : Value) (L : List (List Int)) : Prop :=
 ∃ ts : List SV, ts.length = L.length ∧ V.ownsRow b 22 1 v L.length ((L.zip ts).map (fun p => Value.slice p.2.A p.1.length p.2.c)) ∧ ∀ (i : Nat) (l : List Int) (t : SV), L[i]? = some l → ts[i]? = some t → V.ownsRow b 3 1 (.slice t.A l.length t.c) l.length (ints l)
theorem ResAt.nil (V : World) (b : Nat) : ResAt V b (.slice none 0 0) [] := ⟨[], rfl, World.ownsRow_nil _ _ _ _, fun i l t h => by simp at h⟩
theorem ResAt.upd {S : Nat → Prop} {V V' : World} {b : Nat} {v : Value} {L : List (List Int)} (h : ResAt V b v L) (hu : Upd S V V') (hS : ∀ (k : Nat) (cs : Array Value) (t : TypeId) (fz : Nat × Nat), b ≤ k → V.heap[k]? = some (.cells cs t fz) → (t = 22 ∨ t = 3) → ¬ S k) : ResAt V' b v L := by
 obtain ⟨ts, h1, h2, h3⟩ := h
 refine ⟨ts, h1, ownsRow_upd h2 hu (fun k hk => ?_), fun i l t hl ht => ownsRow_upd (h3 i l t hl ht) hu (fun k hk => ?_)⟩
 · obtain ⟨cs, fz, h4⟩ := ownsRow_typed h2 k hk
   exact hS k _ _ _ (h2.lt k hk).1 h4 (.inl rfl)
 · obtain ⟨cs, fz, h4⟩ := ownsRow_typed (h3 i l t hl ht) k hk
   exact hS k _ _ _ ((h3 i l t hl ht).lt k hk).1 h4 (.inr rfl)
theorem ResAt.below {V V' : World} {b : Nat} {v : Value} {L : List (List Int)} (h : ResAt V b v L) (hb : Below V.heap.size V V') : ResAt V' b v L :=
 h.upd (S := fun _ => False) ⟨hb.os, hb.tape, hb.output, hb.size, fun k hk _ => hb.block k hk⟩ (fun _ _ _ _ _ _ _ h => h)
theorem ResAt.form {V : World} {b : Nat} {v : Value} {L : List (List Int)} (h : ResAt V b v L) : ∃ A c, v = .slice A L.length c ∧ NumsAt V ⟨A, c⟩ L := by
 obtain ⟨ts, h1, h2, h3⟩ := h
 obtain ⟨A, c, rfl⟩ := ownsRow_form h2
 refine ⟨A, c, rfl, ts, h1, rowAt_own h2 (fun u hu => ?_), fun i l t hl ht => rowAt_own (h3 i l t hl ht) (fun u hu => ?_)⟩
 · obtain ⟨p, _, rfl⟩ := List.mem_map.1 hu
   rfl
 · obtain ⟨x, _, rfl⟩ := List.mem_map.1 hu
   rfl
theorem ResAt.nums {V : World} {b : Nat} {A : Option Addr} {c n : Nat} {L : List (List Int)} (h : ResAt V b (.slice A n c) L) : n = L.length ∧ NumsAt V ⟨A, c⟩ L := by
 obtain ⟨A', c', e, hn⟩ := h.form
 injection e with e1 e2 e3
 subst e1 e2 e3
 exact ⟨rfl, hn⟩
theorem ResAt.snoc {V V2 : World} {b g c' : Nat} {v : Value} {L : List (List Int)} {x : List Int} {t : SV} {ts : List SV} (h1 : ts.length = L.length) (h2 : V.ownsRow b 22 1 v L.length ((L.zip ts).map (fun p => Value.slice p.2.A p.1.length p.2.c)))
 (h3 : ∀ (i : Nat) (l : List Int) (t : SV), L[i]? = some l → ts[i]? = some t → V.ownsRow b 3 1 (.slice t.A l.length t.c) l.length (ints l)) (hx : V.ownsRow b 3 1 (.slice t.A x.length t.c) x.length (ints x))
 (ho : V2.ownsRow b 22 1 (.slice (some ⟨g, 0, none⟩) (L.length + 1) c') (L.length + 1) ((L.zip ts).map (fun p => Value.slice p.2.A p.1.length p.2.c) ++ [.slice t.A x.length t.c])) (hu : Upd (fun k => v.ownBlock = some k) V V2) : ResAt V2 b (.slice (some ⟨g, 0, none⟩) (L.length + 1) c') (L ++ [x]) := by
 have hl : (L ++ [x]).length = L.length + 1 := by simp
 have hint : ∀ {l : List Int} {u : Value}, V.ownsRow b 3 1 u l.length (ints l) → V2.ownsRow b 3 1 u l.length (ints l) := fun h4 => ownsRow_upd h4 hu (fun k hk hs => by
  obtain ⟨cs, fz, h5⟩ := ownsRow_typed h4 k hk
  exact ownBlock_ne h2 h5 (by decide) hs)
 refine ⟨ts ++ [t], by simp [h1], ?_, fun i l s hi hs => ?_⟩
 · rw [hl, List.zip_append h1.symm, List.map_append]
   exact ho
 · rcases Nat.lt_or_ge i L.length with hi2 | hi2
   · rw [List.getElem?_append_left hi2] at hi
     rw [List.getElem?_append_left (by omega)] at hs
     exact hint (h3 i l s hi hs)
   · have hi3 : i < (L ++ [x]).length := (List.getElem?_eq_some_iff.1 hi).1
     have e : i = L.length := by omega
     subst e
     rw [List.getElem?_append_right (Nat.le_refl _), Nat.sub_self, List.getElem?_cons_zero, Option.some.injEq] at hi
     rw [List.getElem?_append_right (by omega), h1, Nat.sub_self, List.getElem?_cons_zero, Option.some.injEq] at hs
     subst hi hs
     exact hint hx
structure CB where
 cb : Nat
 fb : Nat
 ub : Nat
 rr : Nat
 er : Nat
 mb : Nat
 rb : Nat
 nb : Nat
 m : Nat
structure CAt (V : World) (B b : Nat) (K : CB) (tv : FV) (ho : Int) (T : List KFact) (OO : List KBef) (u : Int) (n : Nat) (L : List (List Int)) : Prop where
 fbox : Own V 34 K.fb (tv.cells ⟨ho, T, OO⟩)
 ubox : Own V 3 K.ub [.int .i64 u]
 rrbox : Own V 42 K.rr [.slice none 0 0]
 erbox : Own V 35 K.er [.int .i64 0]
 mbox : Own V 71 K.mb [.map (some K.m)]
 rbox : ∃ v, Own V 42 K.rb [v] ∧ ResAt V b v L
 nbox : Own V 3 K.nb [.int .i64 n]
 facts : At V 6 tv.f.A T.length tv.f.c (factCells T)
 map : MapX InT 9 encT V K.m L.length (setV L)
 fl : 0 < T.length → ∀ k off, tv.f.A = some ⟨k, off, none⟩ → k < K.m
 ord : K.fb < K.m ∧ K.ub < K.m ∧ K.rr < K.m ∧ K.er < K.m ∧ K.m < K.mb ∧ K.mb < K.rb ∧ K.rb < K.nb ∧ K.nb < B
theorem updAt0 {S : Nat → Prop} {w w' : World} {size n c : Nat} {A : Option Addr} {xs : List Value} (h : At w size A n c xs) (hs : 0 < size) (hu : Upd S w w') (hS : 0 < n → ∀ b off, A = some ⟨b, off, none⟩ → ¬ S b) : At w' size A n c xs := by
 rcases Nat.eq_zero_or_pos n with h0 | h0
 · subst h0; exact ⟨⟨h.1.1, h.1.2.1, fun h => absurd h (Nat.lt_irrefl 0)⟩, h.2⟩
 · exact updAt h hs hu (hS h0)
theorem Own.belowB {w w' : World} {t : TypeId} {k B : Nat} {cs : List Value} (h : Own w t k cs) (hk : k < B) (hb : Below B w w') : Own w' t k cs := by
 obtain ⟨tl, h⟩ := h
 exact ⟨tl, (hb.block k hk).trans h⟩
theorem CAt.belowB {V V' : World} {B b : Nat} {K : CB} {tv : FV} {ho : Int} {T : List KFact} {OO : List KBef} {u : Int} {n : Nat} {L : List (List Int)} (h : CAt V B b K tv ho T OO u n L) (hb : Below B V V') (hr : ∀ v, ResAt V b v L → ResAt V' b v L) : CAt V' B b K tv ho T OO u n L := by
 obtain ⟨v, h1, h2⟩ := h.rbox
 have lw := h.ord
 refine ⟨h.fbox.belowB (by omega) hb, h.ubox.belowB (by omega) hb, h.rrbox.belowB (by omega) hb, h.erbox.belowB (by omega) hb, h.mbox.belowB (by omega) hb, ⟨v, h1.belowB (by omega) hb, hr v h2⟩, h.nbox.belowB (by omega) hb, ?_, h.map.below (show K.m < B by omega) hb, h.fl, h.ord⟩
 exact updAt0 h.facts (by omega) (Upd.of_below hb) (fun h0 k off e hk => by have := h.fl h0 k off e; omega)
theorem CAt.below {V V' : World} {B b : Nat} {K : CB} {tv : FV} {ho : Int} {T : List KFact} {OO : List KBef} {u : Int} {n : Nat} {L : List (List Int)} (h : CAt V B b K tv ho T OO u n L) (hB : B ≤ V.heap.size) (hb : Below V.heap.size V V') : CAt V' B b K tv ho T OO u n L :=
 h.belowB (hb.mono hB) (fun _ hr => hr.below hb)
theorem MvB.belowB {X : SX} {w0 b : Nat} {V V' : World} (h : MvB X (w0, b) V V') (hB : X.B ≤ w0) (hV : X.B ≤ V.heap.size) : Below X.B V V' :=
 Upd.below h hV (fun k hk => by
  rcases hk with hk | hk
  · have := hk.1; simp only at this; omega
  · exact hk.1)
theorem CAt.mv {X : SX} {w0 : Nat} {V V' : World} {b : Nat} {K : CB} {tv : FV} {ho : Int} {T : List KFact} {OO : List KBef} {u : Int} {n : Nat} {L : List (List Int)} (h : CAt V X.B b K tv ho T OO u n L) (hm : MvB X (w0, b) V V') (hB : X.B ≤ w0) (hV : X.B ≤ V.heap.size) : CAt V' X.B b K tv ho T OO u n L :=
 h.belowB (hm.belowB hB hV) (fun v hr => hr.upd hm (fun k cs t fz hk hc ht hs => by
  rcases hs with hs | ⟨_, cs', t', fz', h1, h2, _⟩
  · have := hs.2; simp only at this; omega
  · rw [hc] at h1
    injection h1 with h1
    injection h1 with _ h1 _
    subst h1
    unfold TyS at h2
    rcases ht with rfl | rfl
    · revert h2; decide
    · revert h2; decide))
theorem CAt.turn {V V' : World} {D B b : Nat} {K : CB} {tv : FV} {ho : Int} {T : List KFact} {OO : List KBef} {u : Int} {n : Nat} {L : List (List Int)} (h : CAt V B b K tv ho T OO u n L) (ht : TurnL D V V') (hB : B ≤ D) (hV : B ≤ V.heap.size) : CAt V' B b K tv ho T OO u n L :=
 h.belowB (Upd.below ht hV (fun k hk => by have := hk.1; omega)) (fun v hr => hr.upd ht (fun k cs t fz hk hc _ hs => by
  obtain ⟨_, o, h1, h2⟩ := hs
  rw [hc] at h1
  cases h1
  cases h2))
theorem CAt.round {V V' : World} {B b : Nat} {K : CB} {tv : FV} {ho : Int} {T : List KFact} {OO : List KBef} {u : Int} {n : Nat} {L L' : List (List Int)} (h : CAt V B b K tv ho T OO u n L) (hu : Upd (fun k => k = K.nb ∨ k = K.m ∨ k = K.rb ∨ B ≤ k) V V') (hn : Own V' 3 K.nb [.int .i64 (n + 1 : Nat)])
 (hr : ∃ v, Own V' 42 K.rb [v] ∧ ResAt V' b v L') (hm : MapX InT 9 encT V' K.m L'.length (setV L')) : CAt V' B b K tv ho T OO u (n + 1) L' := by
 have lw := h.ord
 exact ⟨h.fbox.keep hu (by omega), h.ubox.keep hu (by omega), h.rrbox.keep hu (by omega), h.erbox.keep hu (by omega), h.mbox.keep hu (by omega), hr, hn, updAt0 h.facts (by omega) hu (fun h0 k off e hk => by have := h.fl h0 k off e; omega), hm, h.fl, h.ord⟩
theorem MapX.isMap {α : Type} {P : α → Prop} {K : TypeId} {enc : α → Lit} {w : World} {b n : Nat} {g : α → Option Value} (h : MapX P K enc w b n g) : ∃ es c, w.heap[b]? = some (.map es c) := by
 obtain ⟨D, ⟨es, c, hb, _⟩, _⟩ := h
 exact ⟨es, c, hb⟩
def RdS (V : World) (K : CB) (b : Nat) (k : Nat) : Prop := k = K.nb ∨ k = K.m ∨ k = K.rb ∨ (b ≤ k ∧ ∃ cs fz, V.heap[k]? = some (.cells cs 22 fz))
theorem CAt.kp {X : SX} {w0 Bs : Nat} {V V' : World} {b : Nat} {K : CB} {tv : FV} {ho : Int} {T : List KFact} {OO : List KBef} {u : Int} {n : Nat} {L : List (List Int)} (h : CAt V X.B b K tv ho T OO u n L) (hu : Upd (RdS V K b) V V') (hst : ∀ k, StX X Bs k → X.B ≤ k ∧ k < w0) (hw : X.B ≤ w0) (hb : w0 ≤ b) : KpB X Bs (w0, b) V V' := by
 have lw := h.ord
 obtain ⟨v, hv, _⟩ := h.rbox
 refine ⟨hu.size, fun k cs t fz hc hs => hu.keep hc (fun hr => ?_)⟩
 have lowB : X.B ≤ k ∨ TyS t := by
  rcases hs with hs | hs | hs
  · exact .inl (hst k hs).1
  · have := hs.1; simp only at this; exact .inl (by omega)
  · exact .inr hs
 have ty : ∀ {t' : TypeId} {cs' : List Value}, Own V t' k cs' → t' = t := fun ho => by
  obtain ⟨tl, ho⟩ := ho
  rw [hc] at ho
  injection ho with ho
  injection ho with _ ho _
  exact ho.symm
 rcases hr with rfl | rfl | rfl | ⟨hbk, cs', fz', h1⟩
 · rcases lowB with lowB | lowB
   · omega
   · rw [← ty h.nbox] at lowB; revert lowB; unfold TyS; decide
 · obtain ⟨es, c, hm⟩ := h.map.isMap
   rw [hc] at hm
   cases hm
 · rcases lowB with lowB | lowB
   · omega
   · rw [← ty hv] at lowB; revert lowB; unfold TyS; decide
 · rw [hc] at h1
   injection h1 with h1
   injection h1 with _ h1 _
   subst h1
   rcases hs with hs | hs | hs
   · have := hst k hs; omega
   · have := hs.2; simp only at this; omega
   · revert hs; unfold TyS; decide
theorem kp_of {X : SX} {w0 Bs : Nat} {V V' : World} {b : Nat} {S : Nat → Prop} (hu : Upd S V V') (hS : ∀ k, S k → k < X.B ∧ ∃ t cs, Own V t k cs ∧ ¬ TyS t) (hst : ∀ k, StX X Bs k → X.B ≤ k ∧ k < w0) (hw : X.B ≤ w0) : KpB X Bs (w0, b) V V' :=
 ⟨hu.size, fun k cs t fz hc hs => hu.keep hc (fun e => by
  obtain ⟨h1, t', cs', ⟨tl, ho⟩, h2⟩ := hS k e
  rw [hc] at ho
  injection ho with ho
  injection ho with _ ho _
  subst ho
  rcases hs with hs | hs | hs
  · have := (hst k hs).1; omega
  · have := hs.1; simp only at this; omega
  · exact h2 hs)⟩
theorem rd_keeps {V V' : World} {K : CB} {b D : Nat} (hu : Upd (RdS V K b) V V') (h1 : K.nb < D) (h2 : K.m < D) (h3 : K.rb < D) : KeepsFrom D V V' := by
 refine ⟨hu.size, fun k o hD hk ho => hu.keep hk (fun hr => ?_)⟩
 rcases hr with rfl | rfl | rfl | ⟨_, cs, fz, h4⟩
 · omega
 · omega
 · omega
 · rw [hk] at h4
   cases h4
   cases ho
end Go.Proofs.YtahhdjeclbagnaaGreatDoor
