/-
  Wait
-/
import Derived.Test.YtahhdjeclbagnaaGreatDoorQ20
namespace Go.Proofs.YtahhdjeclbagnaaGreatDoor
open Go.RowKit
section
variable {F : Fence} {n : Nat} {P : Program} {ops : Array Oper} {md : Region.Mode} {w0 w1 : World} {Q : Exit → Act → World → Prop} {f : Nat}
def GivesP (P : Program) (md : Region.Mode) (ops : Array Oper) (w0 w1 : World) (f i : Nat) (o : Oper) (v : Value) (a : Act) : Prop :=
 (Region.wanted o (yielded ops a.tmps) = true ∧ i = f ∧ v = undef ∧ turnsUpon w1 ((execOp a.eval o).run P w0)) ∨
 (Region.wanted o (yielded ops a.tmps) = true ∧ i ≠ f ∧ stillUpon w0 v ((execOp a.eval o).run P w0) ∧ (waitsB md ops f i = false → stillUpon w1 v ((execOp a.eval o).run P w1))) ∨
 (Region.wanted o (yielded ops a.tmps) = false ∧ i ≠ f ∧ v = undef)
theorem GivesP.of_same {i : Nat} {o : Oper} {v : Value} {a a' : Act} (hy : GivesP P md ops w0 w1 f i o v a) (he : execOp a'.eval o = execOp a.eval o) (hw : Region.wanted o (yielded ops a'.tmps) = Region.wanted o (yielded ops a.tmps)) : GivesP P md ops w0 w1 f i o v a' := by
 unfold GivesP at *
 rw [he, hw]
 exact hy
def pOp (P : Program) (md : Region.Mode) (ops : Array Oper) (w0 w1 : World) (f i : Nat) (K : Act → Prop) (a : Act) : Prop :=
 match ops[i]? with
 | none => K a
 | some o => ∃ v, GivesP P md ops w0 w1 f i o v a ∧ K (a.put o.dst v)
theorem pOp_mono {i : Nat} {a : Act} {K K' : Act → Prop} (h : ∀ a, K a → K' a) (hh : pOp P md ops w0 w1 f i K a) : pOp P md ops w0 w1 f i K' a := by
 unfold pOp at *
 split
 · exact h _ (by simpa [*] using hh)
 · rename_i o ho
   simp only [ho] at hh
   obtain ⟨v, h1, h2⟩ := hh
   exact ⟨v, h1, h _ h2⟩
theorem GivesP.pOp {i : Nat} {o : Oper} {v : Value} {a : Act} (hi : ops[i]? = some o) (hy : GivesP P md ops w0 w1 f i o v a) {K : Act → Prop} (h : K (a.put o.dst v)) : pOp P md ops w0 w1 f i K a := by
 unfold Go.Proofs.YtahhdjeclbagnaaGreatDoor.pOp
 simp only [hi]
 exact ⟨v, hy, h⟩
theorem pOp_put {i j : Nat} {oi oj : Oper} {v : Value} (hj : ops[j]? = some oj) (hap : oi.apart ops oj = true) (hsi : ∀ cs b, oi.op ≠ .select cs b) (hsj : ∀ cs b, oj.op ≠ .select cs b) {K : Act → Prop} {a : Act}
 (hy : GivesP P md ops w0 w1 f i oi v a) (h : pOp P md ops w0 w1 f j K (a.put oi.dst v)) : pOp P md ops w0 w1 f j (fun a' => GivesP P md ops w0 w1 f i oi v a' ∧ K (a'.put oi.dst v)) a := by
 obtain ⟨h1, h2, h3⟩ := Oper.apart_spec hap
 unfold pOp at h
 simp only [hj] at h
 obtain ⟨u, hu, hK⟩ := h
 have hu' : GivesP P md ops w0 w1 f j oj u a := hu.of_same (execOp_put oj hsj a oi.dst v h1).symm (wanted_put oj a oi.dst v h1).symm
 refine hu'.pOp hj ⟨hy.of_same (execOp_put oi hsi a oj.dst u h3) (wanted_put oi a oj.dst u h3), ?_⟩
 rw [← Act.put_comm a v u h2]
 exact hK
def anyP (P : Program) (md : Region.Mode) (ops : Array Oper) (w0 w1 : World) (f : Nat) (S : Nat → Array Bool → Act → Prop) (k : Nat) : Nat → Array Bool → Act → Prop
 | 0, listed, a => upToB k listed = true ∧ S 0 listed a
 | fuel + 1, listed, a =>
  (upToB k listed = true → S (fuel + 1) listed a) ∧
  (upToB k listed = false → Region.ready md ops listed ≠ [] ∧ ∀ i ∈ Region.ready md ops listed, pOp P md ops w0 w1 f i (anyP P md ops w0 w1 f S k fuel (listed.setIfInBounds i true)) a)
theorem anyP_first {S : Nat → Array Bool → Act → Prop} {k i : Nat} {oi : Oper} {v : Value} (hn : needB md ops k = true) (hik : i < k) (hi : ops[i]? = some oi) (hsel : ∀ (j : Nat) (o : Oper) cs b, ops[j]? = some o → o.op ≠ .select cs b) :
 ∀ (fuel : Nat) (listed : Array Bool) (a : Act), Down md ops listed →
  (∀ j oj, ops[j]? = some oj → j ≠ i → listed.getD j true = false → (∀ e ∈ oj.after, Region.binds md e = true → e.on ≠ i) → oi.apart ops oj = true) →
  i ∈ Region.ready md ops listed → GivesP P md ops w0 w1 f i oi v a →
  anyP P md ops w0 w1 f S k fuel (listed.setIfInBounds i true) (a.put oi.dst v) → anyP P md ops w0 w1 f S k (fuel + 1) listed a := by
 intro fuel
 induction fuel with
 | zero =>
  intro listed a hd _ hr hy H
  refine ⟨fun hu => (by rw [upToB_ready hik hr] at hu; cases hu), fun _ => ⟨fun e => (by rw [e] at hr; cases hr), fun j hj => ?_⟩⟩
  by_cases hji : j = i
  · subst hji; exact hy.pOp hi H
  · have h1 := (upToB_side hn hik hd (ready_unlisted hr) hj hji).2
    rw [H.1] at h1
    cases h1
 | succ fuel ih =>
  intro listed a hd hfree hr hy H
  refine ⟨fun hu => (by rw [upToB_ready hik hr] at hu; cases hu), fun _ => ⟨fun e => (by rw [e] at hr; cases hr), fun j hj => ?_⟩⟩
  by_cases hji : j = i
  · subst hji; exact hy.pOp hi H
  · have h1 := (H.2 (upToB_side hn hik hd (ready_unlisted hr) hj hji).2).2 j (ready_mono hj hji)
    obtain ⟨hjun, oj, hoj, hall⟩ := mem_ready.1 hj
    have hnot : ∀ e ∈ oj.after, Region.binds md e = true → e.on ≠ i := fun e he hb heq => by
     have h2 := hall e he hb
     rw [heq, ready_unlisted hr] at h2
     cases h2
    have h2 := pOp_put hoj (hfree j oj hoj hji hjun hnot) (fun cs b => hsel i oi cs b hi) (fun cs b => hsel j oj cs b hoj) hy h1
    have hfree' : ∀ k ok, ops[k]? = some ok → k ≠ i → (listed.setIfInBounds j true).getD k true = false →
     (∀ e ∈ ok.after, Region.binds md e = true → e.on ≠ i) → oi.apart ops ok = true := fun k ok hk hki hun hno => by
     refine hfree k ok hk hki ?_ hno
     by_cases hjk : j = k
     · subst hjk; exact hjun
     · rw [getD_set_ne true hjk] at hun; exact hun
    refine pOp_mono (fun a' h3 => ih (listed.setIfInBounds j true) a' (hd.set hj) hfree' (ready_mono hr (Ne.symm hji)) h3.1 ?_) h2
    rw [Array.setIfInBounds_comm _ _ hji]
    exact h3.2
def stillP (P : Program) (md : Region.Mode) (ops : Array Oper) (f i : Nat) (o : Oper) (a : Act) (w0 w1 : World) (next : Act → Prop) : Prop := ∃ v, (stillUpon w0 v ((execOp a.eval o).run P w0) ∧ (waitsB md ops f i = false → stillUpon w1 v ((execOp a.eval o).run P w1))) ∧ next (a.put o.dst v)
def wpP (P : Program) (md : Region.Mode) (ops : Array Oper) (w0 w1 : World) (f : Nat) (R : Act → Prop) : List Oper → Nat → Act → Prop
 | [], _, a => R a
 | o :: rest, i, a =>
  if i = f then (Region.wanted o (yielded ops a.tmps) = true ∧ turnsUpon w1 ((execOp a.eval o).run P w0)) ∧ wpP P md ops w0 w1 f R rest (i + 1) (a.put o.dst undef)
  else if Region.wanted o (yielded ops a.tmps) then stillP P md ops f i o a w0 w1 (fun a' => wpP P md ops w0 w1 f R rest (i + 1) a') else wpP P md ops w0 w1 f R rest (i + 1) (a.put o.dst undef)
theorem wpP_nil {R : Act → Prop} {i : Nat} {a : Act} (h : R a) : wpP P md ops w0 w1 f R [] i a := h
theorem wpP_still {R : Act → Prop} {i : Nat} {a : Act} {o : Oper} {rest : List Oper} (hif : (i == f) = false)
 (h : ∀ K : Act → Prop, (∀ a, wpP P md ops w0 w1 f R rest (i + 1) a → K a) → if Region.wanted o (yielded ops a.tmps) then stillO P o a w0 w1 K else K (a.put o.dst undef)) : wpP P md ops w0 w1 f R (o :: rest) i a := by
 have h1 := h _ (fun _ h => h)
 unfold wpP
 rw [if_neg (by simpa using hif)]
 by_cases hw : Region.wanted o (yielded ops a.tmps) = true
 · rw [if_pos hw] at h1 ⊢
   obtain ⟨v, ⟨h2, h3⟩, h4⟩ := h1
   exact ⟨v, ⟨h2, fun _ => h3⟩, h4⟩
 · rw [if_neg hw] at h1 ⊢
   exact h1
def stillF (P : Program) (o : Oper) (a : Act) (w0 : World) (next : Act → Prop) : Prop := ∃ v, stillUpon w0 v ((execOp a.eval o).run P w0) ∧ next (a.put o.dst v)
theorem wpP_first {R : Act → Prop} {i : Nat} {a : Act} {o : Oper} {rest : List Oper} (hif : (i == f) = false) (hwt : waitsB md ops f i = true)
 (h : ∀ K : Act → Prop, (∀ a, wpP P md ops w0 w1 f R rest (i + 1) a → K a) → if Region.wanted o (yielded ops a.tmps) then stillF P o a w0 K else K (a.put o.dst undef)) : wpP P md ops w0 w1 f R (o :: rest) i a := by
 have h1 := h _ (fun _ h => h)
 unfold wpP
 rw [if_neg (by simpa using hif)]
 by_cases hw : Region.wanted o (yielded ops a.tmps) = true
 · rw [if_pos hw] at h1 ⊢
   obtain ⟨v, h2, h4⟩ := h1
   exact ⟨v, ⟨h2, fun e => by rw [hwt] at e; cases e⟩, h4⟩
 · rw [if_neg hw] at h1 ⊢
   exact h1
theorem wpP_turn {R : Act → Prop} {i : Nat} {a : Act} {o : Oper} {rest : List Oper} (hif : i = f) (hg : o.guard = none) (h1 : turnsUpon w1 ((execOp a.eval o).run P w0)) (h2 : wpP P md ops w0 w1 f R rest (i + 1) (a.put o.dst undef)) : wpP P md ops w0 w1 f R (o :: rest) i a := by
 have hw : Region.wanted o (yielded ops a.tmps) = true := by simp [Region.wanted, hg]
 unfold wpP
 rw [if_pos hif]
 exact ⟨⟨hw, h1⟩, h2⟩
theorem anyP_lex {S : Nat → Array Bool → Act → Prop} {R : Act → Prop} {k m : Nat} (hs : Region.noSelect ops = true) (hn : needB md ops k = true)
 (hS : ∀ listed a, upToB k listed = true → preFrom.oneFrom md ops (ops.size - k) k listed = true → R a → S m listed a) (is : List Nat) : ∀ (q : Nat) (l : List Oper) (listed : Array Bool) (a : Act), is = (List.range' q l.length) → is.map (fun i => ops[i]?) = l.map some → Down md ops listed →
 preIs md ops k is listed = true → wpP P md ops w0 w1 f R l q a → anyP P md ops w0 w1 f S k (is.length + m) listed a := by
 induction is with
 | nil =>
  intro q l listed a hq hl _ hB h
  obtain rfl : l = [] := by
   cases l with
   | nil => rfl
   | cons x l => simp at hl
  simp only [preIs, Bool.and_eq_true] at hB
  have h1 := hS listed a hB.1 hB.2 h
  rw [List.length_nil, Nat.zero_add]
  cases m with
  | zero => exact ⟨hB.1, h1⟩
  | succ m => exact ⟨fun _ => h1, fun e => (by rw [hB.1] at e; cases e)⟩
 | cons i is ih =>
  intro q l listed a hq hl hd hB h
  cases l with
  | nil => simp at hl
  | cons o l =>
   simp only [List.length_cons, List.range'_succ, List.cons.injEq] at hq
   obtain ⟨rfl, hq⟩ := hq
   simp only [List.map_cons, List.cons.injEq] at hl
   obtain ⟨h0, hl⟩ := hl
   simp only [preIs, Bool.and_eq_true, decide_eq_true_eq] at hB
   obtain ⟨⟨⟨hik, hr⟩, hf⟩, hB'⟩ := hB
   have hr' : i ∈ Region.ready md ops listed := by simpa using hr
   have hst : ∃ v, GivesP P md ops w0 w1 f i o v a ∧ wpP P md ops w0 w1 f R l (i + 1) (a.put o.dst v) := by
    unfold wpP at h
    by_cases hif : i = f
    · rw [if_pos hif] at h
      exact ⟨undef, .inl ⟨h.1.1, hif, rfl, h.1.2⟩, h.2⟩
    · rw [if_neg hif] at h
      by_cases hw : Region.wanted o (yielded ops a.tmps) = true
      · rw [if_pos hw] at h
        obtain ⟨v, ⟨h1, h2⟩, h3⟩ := h
        exact ⟨v, .inr (.inl ⟨hw, hif, h1, h2⟩), h3⟩
      · rw [if_neg hw] at h
        exact ⟨undef, .inr (.inr ⟨by simpa using hw, hif, rfl⟩), h⟩
   obtain ⟨v, hy, hK⟩ := hst
   have ih' := ih (i + 1) l (listed.setIfInBounds i true) (a.put o.dst v) hq hl (hd.set hr') hB' hK
   have h9 := anyP_first (S := S) hn hik h0 (Region.noSelect_spec hs) _ listed a hd (Region.free_spec h0 hf) hr' hy ih'
   have e : (i :: is).length + m = is.length + m + 1 := by simp; omega
   rw [e]
   exact h9
theorem wpOpIn_of_givesP {i : Nat} {o : Oper} {v : Value} {a : Act} {K' : Act → World → Prop} {listed : Array Bool} (hF : Lax F P) (ho : ops[i]? = some o) (hd : notDefer o = true) (hun : listed.getD i false = false) (hsz : i < listed.size) (hdn : Down md ops listed) (hy : GivesP P md ops w0 w1 f i o v a)
 (h : K' (a.put o.dst v) (atO w0 w1 f (listed.setIfInBounds i true))) : wpOpIn F n P ops Q i K' a (atO w0 w1 f listed) := by
 unfold wpOpIn
 simp only [ho]
 rcases hy with ⟨hw, rfl, rfl, ht⟩ | ⟨hw, hne, hv0, hv1⟩ | ⟨hw, hne, rfl⟩
 · rw [hw, if_pos rfl]
   refine ⟨fun f _ => hF.fn f, ?_⟩
   rw [Oper.semAt_plain F _ _ (notDefer_spec hd)]
   have e0 : atO w0 w1 i listed = w0 := by unfold atO; rw [hun]; rfl
   have e1 : atO w0 w1 i (listed.setIfInBounds i true) = w1 := by
    unfold atO
    simp [hsz]
   rw [e0]
   rw [e1] at h
   generalize (execOp a.eval o).run P w0 = r at *
   cases r with
   | ok x w' =>
    cases x <;> simp only [turnsUpon] at ht
    subst ht
    exact h
   | halt x w' => simp only [turnsUpon] at ht
 · rw [hw, if_pos rfl]
   refine ⟨fun f _ => hF.fn f, ?_⟩
   rw [Oper.semAt_plain F _ _ (notDefer_spec hd)]
   have e1 : atO w0 w1 f (listed.setIfInBounds i true) = atO w0 w1 f listed := by
    unfold atO
    rw [getD_set_ne false hne]
   rw [e1] at h
   have hv : stillUpon (atO w0 w1 f listed) v ((execOp a.eval o).run P (atO w0 w1 f listed)) := by
    unfold atO
    split
    · rename_i hfl
      refine hv1 ?_
      cases hwf : waitsB md ops f i with
      | false => rfl
      | true => rw [waits_down hwf hdn hfl] at hun; cases hun
    · exact hv0
   generalize (execOp a.eval o).run P (atO w0 w1 f listed) = r at *
   cases r with
   | ok x w' =>
    cases x <;> simp only [stillUpon] at hv
    case value u =>
     obtain ⟨e1, e2⟩ := hv
     subst e1 e2
     exact h
    case skip =>
     obtain ⟨e1, e2⟩ := hv
     subst e1 e2
     exact h
   | halt x w' => simp only [stillUpon] at hv
 · rw [hw, if_neg (by simp)]
   have e1 : atO w0 w1 f (listed.setIfInBounds i true) = atO w0 w1 f listed := by
    unfold atO
    rw [getD_set_ne false hne]
   rw [e1] at h
   exact ⟨fun f _ => hF.fn f, h⟩
theorem wpAnyIn_of_anyP {k : Nat} (hF : Lax F P) (hdef : ∀ (i : Nat) o, ops[i]? = some o → i < k → notDefer o = true) (hn : needB md ops k = true) : ∀ (fuel : Nat) (listed : Array Bool) (a : Act), listed.size = ops.size → Down md ops listed →
 anyP P md ops w0 w1 f (fun fuel listed a => wpAnyIn F n P md ops Q fuel listed a (atO w0 w1 f listed)) k fuel listed a → wpAnyIn F n P md ops Q fuel listed a (atO w0 w1 f listed)
 | 0, _, _, _, _, h => h.2
 | fuel + 1, listed, a, hls, hd, h => by
  cases hu : upToB k listed with
  | true => exact h.1 hu
  | false =>
   obtain ⟨hne, hall⟩ := h.2 hu
   refine ⟨fun e => absurd e hne, fun i hi => ?_⟩
   have hik : i < k := by
    rcases Nat.lt_or_ge i k with h1 | h1
    · exact h1
    · rw [upToB_spec.2 (needB_spec hn hd hi h1)] at hu
      cases hu
   obtain ⟨_, o, ho, _⟩ := mem_ready.1 hi
   have h1 := hall i hi
   unfold pOp at h1
   simp only [ho] at h1
   obtain ⟨v, hy, hK⟩ := h1
   have hil : i < listed.size := by rw [hls]; exact (Array.getElem?_eq_some_iff.1 ho).1
   refine wpOpIn_of_givesP hF ho (hdef i o ho hik) (ready_unlisted hi) hil hd hy ?_
   exact wpAnyIn_of_anyP hF hdef hn fuel _ _ (by simpa using hls) (hd.set hi) hK
theorem wp_region_wait {id : Nat} {a : Act} {w w1 : World} {l : List Oper} (k f : Nat) (hf : f < k) (hk : k ≤ l.length) (hm : P.follows .mixedOrders = true) (hB : makeB l.toArray k = true)
 (h : wpP P .any l.toArray w.drew w1 f (fun a' => wpListIn Fence.wide 0 P l.toArray Q (l.drop k) a' w1) (l.take k) 0 a) : (Code.region id l.toArray true).wp P Q a w := by
 refine (wpIn_wide (n := 0)).1 ?_
 simp only [makeB, Bool.and_eq_true] at hB
 obtain ⟨⟨⟨hs, hn⟩, hp⟩, hd⟩ := hB
 have hdown : Down .any l.toArray (Array.replicate l.toArray.size false) := fun j hj => by
  exfalso
  rcases Nat.lt_or_ge j l.length with h' | h'
  · simp [h'] at hj
  · simp [h'] at hj
 refine wpIn_region_any hm ?_
 have hlen : (l.take k).length = k := by simp; omega
 have h1 := anyP_lex (md := .any) (ops := l.toArray) (P := P) (w0 := w.drew) (w1 := w1) (f := f) (S := fun fuel listed a => wpAnyIn Fence.wide 0 P .any l.toArray Q fuel listed a (atO w.drew w1 f listed)) (k := k) (m := l.toArray.size - k) hs hn
  (R := fun a' => wpListIn Fence.wide 0 P l.toArray Q (l.drop k) a' w1)
  (fun listed a' hu ho h0 => by
   have e1 : atO w.drew w1 f listed = w1 := by unfold atO; rw [upToB_spec.1 hu f hf]; rfl
   rw [e1]
   have h2 := wpAnyIn_one (F := Fence.wide) (n := 0) (P := P) (ops := l.toArray) (Q := Q) (md := .any) (l.drop k) k listed a' w1 (fun j => by simp) (by simpa using ho) h0
   simpa using h2)
  (List.range' 0 k) 0 (l.take k) (Array.replicate l.toArray.size false) a (by rw [hlen]) (by
   apply List.ext_getElem?
   intro j
   rw [List.getElem?_map, List.getElem?_map, List.getElem?_take]
   by_cases hj : j < k
   · rw [List.getElem?_range' hj, if_pos hj]
     have : j < l.length := by omega
     simp [this]
   · rw [if_neg hj, List.getElem?_eq_none (by simp; omega)]
     rfl) hdown hp h
 rw [show (List.range' 0 k).length + (l.toArray.size - k) = l.toArray.size by simp; omega] at h1
 have h3 := wpAnyIn_of_anyP (Lax.wide P) (fun i o ho hi => ?_) hn _ _ _ (by simp) hdown h1
 · have e0 : atO w.drew w1 f (Array.replicate l.toArray.size false) = w.drew := by
    unfold atO
    rw [if_neg]
    intro hc
    have : (Array.replicate l.toArray.size false).getD f false = false := by
     rcases Nat.lt_or_ge f l.length with h' | h'
     · simp [h']
     · simp [h']
    rw [this] at hc
    cases hc
   rw [e0] at h3
   exact h3
 · have h2 := List.all_eq_true.1 hd o
   refine h2 ?_
   rw [List.mem_iff_getElem?]
   exact ⟨i, by rw [List.getElem?_take, if_pos hi]; simpa using ho⟩
end
end Go.Proofs.YtahhdjeclbagnaaGreatDoor
