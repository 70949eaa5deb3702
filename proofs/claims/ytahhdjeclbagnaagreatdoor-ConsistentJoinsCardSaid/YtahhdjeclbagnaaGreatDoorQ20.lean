/-
  Once; Pair
-/
import Derived.Test.YtahhdjeclbagnaaGreatDoorQ16
import Derived.Test.YtahhdjeclbagnaaGreatDoorQ19
namespace Go.Proofs.YtahhdjeclbagnaaGreatDoor
open Go.RowKit
section
variable {F : Fence} {n : Nat} {P : Program} {ops : Array Oper} {md : Region.Mode} {w0 w1 : World} {Q : Exit → Act → World → Prop} {f : Nat}
def turnsUpon (w1 : World) : Result Next → Prop
 | .ok .skip w' => w' = w1
 | _ => False
def GivesO (P : Program) (ops : Array Oper) (w0 w1 : World) (f i : Nat) (o : Oper) (v : Value) (a : Act) : Prop :=
 (Region.wanted o (yielded ops a.tmps) = true ∧ i = f ∧ v = undef ∧ turnsUpon w1 ((execOp a.eval o).run P w0)) ∨
 (Region.wanted o (yielded ops a.tmps) = true ∧ i ≠ f ∧ stillUpon w0 v ((execOp a.eval o).run P w0) ∧ stillUpon w1 v ((execOp a.eval o).run P w1)) ∨
 (Region.wanted o (yielded ops a.tmps) = false ∧ i ≠ f ∧ v = undef)
theorem GivesO.of_same {i : Nat} {o : Oper} {v : Value} {a a' : Act} (hy : GivesO P ops w0 w1 f i o v a) (he : execOp a'.eval o = execOp a.eval o) (hw : Region.wanted o (yielded ops a'.tmps) = Region.wanted o (yielded ops a.tmps)) : GivesO P ops w0 w1 f i o v a' := by
 unfold GivesO at *
 rw [he, hw]
 exact hy
def oOp (P : Program) (ops : Array Oper) (w0 w1 : World) (f i : Nat) (K : Act → Prop) (a : Act) : Prop :=
 match ops[i]? with
 | none => K a
 | some o => ∃ v, GivesO P ops w0 w1 f i o v a ∧ K (a.put o.dst v)
theorem oOp_mono {i : Nat} {a : Act} {K K' : Act → Prop} (h : ∀ a, K a → K' a) (hh : oOp P ops w0 w1 f i K a) : oOp P ops w0 w1 f i K' a := by
 unfold oOp at *
 split
 · exact h _ (by simpa [*] using hh)
 · rename_i o ho
   simp only [ho] at hh
   obtain ⟨v, h1, h2⟩ := hh
   exact ⟨v, h1, h _ h2⟩
theorem GivesO.oOp {i : Nat} {o : Oper} {v : Value} {a : Act} (hi : ops[i]? = some o) (hy : GivesO P ops w0 w1 f i o v a) {K : Act → Prop} (h : K (a.put o.dst v)) : oOp P ops w0 w1 f i K a := by
 unfold Go.Proofs.YtahhdjeclbagnaaGreatDoor.oOp
 simp only [hi]
 exact ⟨v, hy, h⟩
theorem oOp_put {i j : Nat} {oi oj : Oper} {v : Value} (hj : ops[j]? = some oj) (hap : oi.apart ops oj = true) (hsi : ∀ cs b, oi.op ≠ .select cs b) (hsj : ∀ cs b, oj.op ≠ .select cs b) {K : Act → Prop} {a : Act}
 (hy : GivesO P ops w0 w1 f i oi v a) (h : oOp P ops w0 w1 f j K (a.put oi.dst v)) : oOp P ops w0 w1 f j (fun a' => GivesO P ops w0 w1 f i oi v a' ∧ K (a'.put oi.dst v)) a := by
 obtain ⟨h1, h2, h3⟩ := Oper.apart_spec hap
 unfold oOp at h
 simp only [hj] at h
 obtain ⟨u, hu, hK⟩ := h
 have hu' : GivesO P ops w0 w1 f j oj u a := hu.of_same (execOp_put oj hsj a oi.dst v h1).symm (wanted_put oj a oi.dst v h1).symm
 refine hu'.oOp hj ⟨hy.of_same (execOp_put oi hsi a oj.dst u h3) (wanted_put oi a oj.dst u h3), ?_⟩
 rw [← Act.put_comm a v u h2]
 exact hK
def anyO (P : Program) (md : Region.Mode) (ops : Array Oper) (w0 w1 : World) (f : Nat) (S : Nat → Array Bool → Act → Prop) (k : Nat) : Nat → Array Bool → Act → Prop
 | 0, listed, a => upToB k listed = true ∧ S 0 listed a
 | fuel + 1, listed, a =>
  (upToB k listed = true → S (fuel + 1) listed a) ∧
  (upToB k listed = false → Region.ready md ops listed ≠ [] ∧ ∀ i ∈ Region.ready md ops listed, oOp P ops w0 w1 f i (anyO P md ops w0 w1 f S k fuel (listed.setIfInBounds i true)) a)
theorem anyO_first {S : Nat → Array Bool → Act → Prop} {k i : Nat} {oi : Oper} {v : Value} (hn : needB md ops k = true) (hik : i < k) (hi : ops[i]? = some oi) (hsel : ∀ (j : Nat) (o : Oper) cs b, ops[j]? = some o → o.op ≠ .select cs b) :
 ∀ (fuel : Nat) (listed : Array Bool) (a : Act), Down md ops listed →
  (∀ j oj, ops[j]? = some oj → j ≠ i → listed.getD j true = false → (∀ e ∈ oj.after, Region.binds md e = true → e.on ≠ i) → oi.apart ops oj = true) →
  i ∈ Region.ready md ops listed → GivesO P ops w0 w1 f i oi v a →
  anyO P md ops w0 w1 f S k fuel (listed.setIfInBounds i true) (a.put oi.dst v) → anyO P md ops w0 w1 f S k (fuel + 1) listed a := by
 intro fuel
 induction fuel with
 | zero =>
  intro listed a hd _ hr hy H
  refine ⟨fun hu => (by rw [upToB_ready hik hr] at hu; cases hu), fun _ => ⟨fun e => (by rw [e] at hr; cases hr), fun j hj => ?_⟩⟩
  by_cases hji : j = i
  · subst hji; exact hy.oOp hi H
  · have h1 := (upToB_side hn hik hd (ready_unlisted hr) hj hji).2
    rw [H.1] at h1
    cases h1
 | succ fuel ih =>
  intro listed a hd hfree hr hy H
  refine ⟨fun hu => (by rw [upToB_ready hik hr] at hu; cases hu), fun _ => ⟨fun e => (by rw [e] at hr; cases hr), fun j hj => ?_⟩⟩
  by_cases hji : j = i
  · subst hji; exact hy.oOp hi H
  · have h1 := (H.2 (upToB_side hn hik hd (ready_unlisted hr) hj hji).2).2 j (ready_mono hj hji)
    obtain ⟨hjun, oj, hoj, hall⟩ := mem_ready.1 hj
    have hnot : ∀ e ∈ oj.after, Region.binds md e = true → e.on ≠ i := fun e he hb heq => by
     have h2 := hall e he hb
     rw [heq, ready_unlisted hr] at h2
     cases h2
    have h2 := oOp_put hoj (hfree j oj hoj hji hjun hnot) (fun cs b => hsel i oi cs b hi) (fun cs b => hsel j oj cs b hoj) hy h1
    have hfree' : ∀ k ok, ops[k]? = some ok → k ≠ i → (listed.setIfInBounds j true).getD k true = false →
     (∀ e ∈ ok.after, Region.binds md e = true → e.on ≠ i) → oi.apart ops ok = true := fun k ok hk hki hun hno => by
     refine hfree k ok hk hki ?_ hno
     by_cases hjk : j = k
     · subst hjk; exact hjun
     · rw [getD_set_ne true hjk] at hun; exact hun
    refine oOp_mono (fun a' h3 => ih (listed.setIfInBounds j true) a' (hd.set hj) hfree' (ready_mono hr (Ne.symm hji)) h3.1 ?_) h2
    rw [Array.setIfInBounds_comm _ _ hji]
    exact h3.2
def stillO (P : Program) (o : Oper) (a : Act) (w0 w1 : World) (next : Act → Prop) : Prop := ∃ v, (stillUpon w0 v ((execOp a.eval o).run P w0) ∧ stillUpon w1 v ((execOp a.eval o).run P w1)) ∧ next (a.put o.dst v)
def wpO (P : Program) (ops : Array Oper) (w0 w1 : World) (f : Nat) (R : Act → Prop) : List Oper → Nat → Act → Prop
 | [], _, a => R a
 | o :: rest, i, a =>
  if i = f then (Region.wanted o (yielded ops a.tmps) = true ∧ turnsUpon w1 ((execOp a.eval o).run P w0)) ∧ wpO P ops w0 w1 f R rest (i + 1) (a.put o.dst undef)
  else if Region.wanted o (yielded ops a.tmps) then stillO P o a w0 w1 (fun a' => wpO P ops w0 w1 f R rest (i + 1) a') else wpO P ops w0 w1 f R rest (i + 1) (a.put o.dst undef)
theorem wpO_nil {R : Act → Prop} {i : Nat} {a : Act} (h : R a) : wpO P ops w0 w1 f R [] i a := h
theorem wpO_still {R : Act → Prop} {i : Nat} {a : Act} {o : Oper} {rest : List Oper} (hif : (i == f) = false)
 (h : ∀ K : Act → Prop, (∀ a, wpO P ops w0 w1 f R rest (i + 1) a → K a) → if Region.wanted o (yielded ops a.tmps) then stillO P o a w0 w1 K else K (a.put o.dst undef)) : wpO P ops w0 w1 f R (o :: rest) i a := by
 have h1 := h _ (fun _ h => h)
 unfold wpO
 rw [if_neg (by simpa using hif)]
 exact h1
theorem wpO_turn {R : Act → Prop} {i : Nat} {a : Act} {o : Oper} {rest : List Oper} (hif : i = f) (hg : o.guard = none) (h1 : turnsUpon w1 ((execOp a.eval o).run P w0)) (h2 : wpO P ops w0 w1 f R rest (i + 1) (a.put o.dst undef)) : wpO P ops w0 w1 f R (o :: rest) i a := by
 have hw : Region.wanted o (yielded ops a.tmps) = true := by simp [Region.wanted, hg]
 unfold wpO
 rw [if_pos hif]
 exact ⟨⟨hw, h1⟩, h2⟩
theorem anyO_lex {S : Nat → Array Bool → Act → Prop} {R : Act → Prop} {k m : Nat} (hs : Region.noSelect ops = true) (hn : needB md ops k = true)
 (hS : ∀ listed a, upToB k listed = true → preFrom.oneFrom md ops (ops.size - k) k listed = true → R a → S m listed a) (is : List Nat) : ∀ (q : Nat) (l : List Oper) (listed : Array Bool) (a : Act), is = (List.range' q l.length) → is.map (fun i => ops[i]?) = l.map some → Down md ops listed →
 preIs md ops k is listed = true → wpO P ops w0 w1 f R l q a → anyO P md ops w0 w1 f S k (is.length + m) listed a := by
 induction is with
 | nil =>
  intro q l listed a hq hl _ hB h
  obtain rfl : l = [] := by
   cases l with
   | nil => rfl
   | cons x l => simp at hl
  simp only [preIs, Bool.and_eq_true] at hB
  have h1 := hS listed a hB.1 hB.2 h
  rw [List.length_nil, Nat.zero_add]
  cases m with
  | zero => exact ⟨hB.1, h1⟩
  | succ m => exact ⟨fun _ => h1, fun e => (by rw [hB.1] at e; cases e)⟩
 | cons i is ih =>
  intro q l listed a hq hl hd hB h
  cases l with
  | nil => simp at hl
  | cons o l =>
   simp only [List.length_cons, List.range'_succ, List.cons.injEq] at hq
   obtain ⟨rfl, hq⟩ := hq
   simp only [List.map_cons, List.cons.injEq] at hl
   obtain ⟨h0, hl⟩ := hl
   simp only [preIs, Bool.and_eq_true, decide_eq_true_eq] at hB
   obtain ⟨⟨⟨hik, hr⟩, hf⟩, hB'⟩ := hB
   have hr' : i ∈ Region.ready md ops listed := by simpa using hr
   have hst : ∃ v, GivesO P ops w0 w1 f i o v a ∧ wpO P ops w0 w1 f R l (i + 1) (a.put o.dst v) := by
    unfold wpO at h
    by_cases hif : i = f
    · rw [if_pos hif] at h
      exact ⟨undef, .inl ⟨h.1.1, hif, rfl, h.1.2⟩, h.2⟩
    · rw [if_neg hif] at h
      by_cases hw : Region.wanted o (yielded ops a.tmps) = true
      · rw [if_pos hw] at h
        obtain ⟨v, ⟨h1, h2⟩, h3⟩ := h
        exact ⟨v, .inr (.inl ⟨hw, hif, h1, h2⟩), h3⟩
      · rw [if_neg hw] at h
        exact ⟨undef, .inr (.inr ⟨by simpa using hw, hif, rfl⟩), h⟩
   obtain ⟨v, hy, hK⟩ := hst
   have ih' := ih (i + 1) l (listed.setIfInBounds i true) (a.put o.dst v) hq hl (hd.set hr') hB' hK
   have h9 := anyO_first (S := S) hn hik h0 (Region.noSelect_spec hs) _ listed a hd (Region.free_spec h0 hf) hr' hy ih'
   have e : (i :: is).length + m = is.length + m + 1 := by simp; omega
   rw [e]
   exact h9
def atO (w0 w1 : World) (f : Nat) (listed : Array Bool) : World := if listed.getD f false = true then w1 else w0
theorem wpOpIn_of_givesO {i : Nat} {o : Oper} {v : Value} {a : Act} {K' : Act → World → Prop} {listed : Array Bool} (hF : Lax F P) (ho : ops[i]? = some o) (hd : notDefer o = true) (hun : listed.getD i false = false) (hsz : i < listed.size) (hy : GivesO P ops w0 w1 f i o v a)
 (h : K' (a.put o.dst v) (atO w0 w1 f (listed.setIfInBounds i true))) : wpOpIn F n P ops Q i K' a (atO w0 w1 f listed) := by
 unfold wpOpIn
 simp only [ho]
 rcases hy with ⟨hw, rfl, rfl, ht⟩ | ⟨hw, hne, hv0, hv1⟩ | ⟨hw, hne, rfl⟩
 · rw [hw, if_pos rfl]
   refine ⟨fun f _ => hF.fn f, ?_⟩
   rw [Oper.semAt_plain F _ _ (notDefer_spec hd)]
   have e0 : atO w0 w1 i listed = w0 := by unfold atO; rw [hun]; rfl
   have e1 : atO w0 w1 i (listed.setIfInBounds i true) = w1 := by
    unfold atO
    simp [hsz]
   rw [e0]
   rw [e1] at h
   generalize (execOp a.eval o).run P w0 = r at *
   cases r with
   | ok x w' =>
    cases x <;> simp only [turnsUpon] at ht
    subst ht
    exact h
   | halt x w' => simp only [turnsUpon] at ht
 · rw [hw, if_pos rfl]
   refine ⟨fun f _ => hF.fn f, ?_⟩
   rw [Oper.semAt_plain F _ _ (notDefer_spec hd)]
   have e1 : atO w0 w1 f (listed.setIfInBounds i true) = atO w0 w1 f listed := by
    unfold atO
    rw [getD_set_ne false hne]
   rw [e1] at h
   have hv : stillUpon (atO w0 w1 f listed) v ((execOp a.eval o).run P (atO w0 w1 f listed)) := by
    unfold atO
    split
    · exact hv1
    · exact hv0
   generalize (execOp a.eval o).run P (atO w0 w1 f listed) = r at *
   cases r with
   | ok x w' =>
    cases x <;> simp only [stillUpon] at hv
    case value u =>
     obtain ⟨e1, e2⟩ := hv
     subst e1 e2
     exact h
    case skip =>
     obtain ⟨e1, e2⟩ := hv
     subst e1 e2
     exact h
   | halt x w' => simp only [stillUpon] at hv
 · rw [hw, if_neg (by simp)]
   have e1 : atO w0 w1 f (listed.setIfInBounds i true) = atO w0 w1 f listed := by
    unfold atO
    rw [getD_set_ne false hne]
   rw [e1] at h
   exact ⟨fun f _ => hF.fn f, h⟩
theorem wpAnyIn_of_anyO {k : Nat} (hF : Lax F P) (hdef : ∀ (i : Nat) o, ops[i]? = some o → i < k → notDefer o = true) (hn : needB md ops k = true) : ∀ (fuel : Nat) (listed : Array Bool) (a : Act), listed.size = ops.size → Down md ops listed →
 anyO P md ops w0 w1 f (fun fuel listed a => wpAnyIn F n P md ops Q fuel listed a (atO w0 w1 f listed)) k fuel listed a → wpAnyIn F n P md ops Q fuel listed a (atO w0 w1 f listed)
 | 0, _, _, _, _, h => h.2
 | fuel + 1, listed, a, hls, hd, h => by
  cases hu : upToB k listed with
  | true => exact h.1 hu
  | false =>
   obtain ⟨hne, hall⟩ := h.2 hu
   refine ⟨fun e => absurd e hne, fun i hi => ?_⟩
   have hik : i < k := by
    rcases Nat.lt_or_ge i k with h1 | h1
    · exact h1
    · rw [upToB_spec.2 (needB_spec hn hd hi h1)] at hu
      cases hu
   obtain ⟨_, o, ho, _⟩ := mem_ready.1 hi
   have h1 := hall i hi
   unfold oOp at h1
   simp only [ho] at h1
   obtain ⟨v, hy, hK⟩ := h1
   have hil : i < listed.size := by rw [hls]; exact (Array.getElem?_eq_some_iff.1 ho).1
   refine wpOpIn_of_givesO hF ho (hdef i o ho hik) (ready_unlisted hi) hil hy ?_
   exact wpAnyIn_of_anyO hF hdef hn fuel _ _ (by simpa using hls) (hd.set hi) hK
theorem wp_region_once {id : Nat} {a : Act} {w w1 : World} {l : List Oper} (k f : Nat) (hf : f < k) (hk : k ≤ l.length) (hm : P.follows .mixedOrders = true) (hB : makeB l.toArray k = true)
 (h : wpO P l.toArray w.drew w1 f (fun a' => wpListIn Fence.wide 0 P l.toArray Q (l.drop k) a' w1) (l.take k) 0 a) : (Code.region id l.toArray true).wp P Q a w := by
 refine (wpIn_wide (n := 0)).1 ?_
 simp only [makeB, Bool.and_eq_true] at hB
 obtain ⟨⟨⟨hs, hn⟩, hp⟩, hd⟩ := hB
 have hdown : Down .any l.toArray (Array.replicate l.toArray.size false) := fun j hj => by
  exfalso
  rcases Nat.lt_or_ge j l.length with h' | h'
  · simp [h'] at hj
  · simp [h'] at hj
 refine wpIn_region_any hm ?_
 have hlen : (l.take k).length = k := by simp; omega
 have h1 := anyO_lex (md := .any) (ops := l.toArray) (P := P) (w0 := w.drew) (w1 := w1) (f := f) (S := fun fuel listed a => wpAnyIn Fence.wide 0 P .any l.toArray Q fuel listed a (atO w.drew w1 f listed)) (k := k) (m := l.toArray.size - k) hs hn
  (R := fun a' => wpListIn Fence.wide 0 P l.toArray Q (l.drop k) a' w1)
  (fun listed a' hu ho h0 => by
   have e1 : atO w.drew w1 f listed = w1 := by unfold atO; rw [upToB_spec.1 hu f hf]; rfl
   rw [e1]
   have h2 := wpAnyIn_one (F := Fence.wide) (n := 0) (P := P) (ops := l.toArray) (Q := Q) (md := .any) (l.drop k) k listed a' w1 (fun j => by simp) (by simpa using ho) h0
   simpa using h2)
  (List.range' 0 k) 0 (l.take k) (Array.replicate l.toArray.size false) a (by rw [hlen]) (by
   apply List.ext_getElem?
   intro j
   rw [List.getElem?_map, List.getElem?_map, List.getElem?_take]
   by_cases hj : j < k
   · rw [List.getElem?_range' hj, if_pos hj]
     have : j < l.length := by omega
     simp [this]
   · rw [if_neg hj, List.getElem?_eq_none (by simp; omega)]
     rfl) hdown hp h
 rw [show (List.range' 0 k).length + (l.toArray.size - k) = l.toArray.size by simp; omega] at h1
 have h3 := wpAnyIn_of_anyO (Lax.wide P) (fun i o ho hi => ?_) hn _ _ _ (by simp) hdown h1
 · have e0 : atO w.drew w1 f (Array.replicate l.toArray.size false) = w.drew := by
    unfold atO
    rw [if_neg]
    intro hc
    have : (Array.replicate l.toArray.size false).getD f false = false := by
     rcases Nat.lt_or_ge f l.length with h' | h'
     · simp [h']
     · simp [h']
    rw [this] at hc
    cases hc
   rw [e0] at h3
   exact h3
 · have h2 := List.all_eq_true.1 hd o
   refine h2 ?_
   rw [List.mem_iff_getElem?]
   exact ⟨i, by rw [List.getElem?_take, if_pos hi]; simpa using ho⟩
end
end Go.Proofs.YtahhdjeclbagnaaGreatDoor
namespace Go.Proofs.YtahhdjeclbagnaaGreatDoor
open Go.RowKit
section
variable {F : Fence} {n : Nat} {P : Program} {ops : Array Oper} {md : Region.Mode} {W0 : World} {Q : Exit → Act → World → Prop} {mk : Nat → Option MSpec} {dep : Nat → List Nat} {ds : List Nat} {Pr : Nat → Nat → Value → Value → Prop}
def PairD (mk : Nat → Option MSpec) (ds : List Nat) (Pr : Nat → Nat → Value → Value → Prop) (i : Nat) (z : World) (v : Value) : Prop :=
 i ∈ ds → ∀ p ∈ ds, p ≠ i → ∀ sp, mk p = some sp → ∀ u, sp.S u z → Pr p i u v ∧ Pr i p v u
def PairsA (ops : Array Oper) (mk : Nat → Option MSpec) (ds : List Nat) (Pr : Nat → Nat → Value → Value → Prop) (listed : Nat → Bool) (a : Act) : Prop :=
 ∀ p ∈ ds, ∀ q ∈ ds, p ≠ q → listed p = true → listed q = true → ∀ sp, mk p = some sp → ∀ sq, mk q = some sq → ∀ op oq tp tq, ops[p]? = some op → op.dst = some tp → ops[q]? = some oq → oq.dst = some tq → Pr p q (a.tmps.getD tp undef) (a.tmps.getD tq undef)
def withG (sp : MSpec) (G : Value → Prop) : MSpec := ⟨fun v => sp.V v ∧ G v, sp.S⟩
theorem put_get {i k p : Nat} {o o' : Oper} {t : Tmp} {a : Act} {v : Value} (hdp : depB ops k ds dep = true) (hik : i < k) (ho : ops[i]? = some o) (hbn : BndE ops ds a) (hp : p ∈ ds) (ho' : ops[p]? = some o') (ht : o'.dst = some t) :
 (p = i → (a.put o.dst v).tmps.getD t undef = v) ∧ (p ≠ i → (a.put o.dst v).tmps.getD t undef = a.tmps.getD t undef) := by
 constructor
 · rintro rfl
   rw [ho] at ho'
   cases ho'
   have hb := hbn p hp o t ho ht
   rw [ht]
   simp [Act.put, hb]
 · intro e
   have h2 := (depB_spec hdp).2.1 p hp i hik (fun h => e h.symm) o' t o ho' ht ho
   cases hd : o.dst with
   | none => rfl
   | some d =>
    have hne : d ≠ t := fun h => h2 (by rw [hd, h])
    simp [Act.put, Array.getElem?_setIfInBounds_ne hne]
theorem pairs_put {i k : Nat} {o : Oper} {a : Act} {v : Value} {z : World} {listed : Array Bool} (hdp : depB ops k ds dep = true) (hik : i < k) (ho : ops[i]? = some o) (hbn : BndE ops ds a) (hfa : FactsE ops mk ds listed a z) (hpa : PairsA ops mk ds Pr (fun p => listed.getD p false) a)
 (hv : ∀ si, mk i = some si → PairD mk ds Pr i z v) : PairsA ops mk ds Pr (fun p => (listed.setIfInBounds i true).getD p false) (a.put o.dst v) := by
 intro p hp q hq hne hlp hlq sp hsp sq hsq op oq tp tq hop htp hoq htq
 have gp := put_get (v := v) hdp hik ho hbn hp hop htp
 have gq := put_get (v := v) hdp hik ho hbn hq hoq htq
 by_cases e1 : p = i
 · subst e1
   have e2 : q ≠ p := fun h => hne h.symm
   rw [gp.1 rfl, gq.2 e2]
   simp only [getD_set_ne false (fun h => e2 h.symm)] at hlq
   exact (hv sp hsp hp q hq e2 sq hsq _ (hfa q hq hlq sq hsq oq tq hoq htq)).2
 · rw [gp.2 e1]
   simp only [getD_set_ne false (fun h => e1 h.symm)] at hlp
   by_cases e2 : q = i
   · subst e2
     rw [gq.1 rfl]
     exact (hv sq hsq hq p hp e1 sp hsp _ (hfa p hp hlp sp hsp op tp hop htp)).1
   · rw [gq.2 e2]
     simp only [getD_set_ne false (fun h => e2 h.symm)] at hlq
     exact hpa p hp q hq hne hlp hlq sp hsp sq hsq op oq tp tq hop htp hoq htq
def GivesD (P : Program) (ops : Array Oper) (W0 : World) (mk : Nat → Option MSpec) (dep : Nat → List Nat) (ds : List Nat) (Pr : Nat → Nat → Value → Value → Prop) (i : Nat) (o : Oper) (sp : MSpec) (a : Act) : Prop :=
 (Region.wanted o (yielded ops a.tmps) = true ∧ mk i = some sp ∧ (∃ v, sp.V v) ∧ ∀ z : Bl W0, PreE ops mk dep i a z.val → makesUpon P z.val (withG sp (PairD mk ds Pr i z.val)) ((execOp a.eval o).run P z.val)) ∨
 (Region.wanted o (yielded ops a.tmps) = true ∧ mk i = none ∧ ∃ u, sp = one u ∧ ∀ z : Bl W0, stillUpon z.val u ((execOp a.eval o).run P z.val)) ∨
 (Region.wanted o (yielded ops a.tmps) = false ∧ sp = one undef)
theorem GivesD.unique {i : Nat} {o : Oper} {sp sp' : MSpec} {a : Act} (h : GivesD P ops W0 mk dep ds Pr i o sp a) (h' : GivesD P ops W0 mk dep ds Pr i o sp' a) : sp = sp' := by
 rcases h with ⟨h1, h2, _, _⟩ | ⟨h1, h2, u, rfl, h4⟩ | ⟨h1, rfl⟩
 · rcases h' with ⟨_, h3, _, _⟩ | ⟨_, h3, _⟩ | ⟨h3, _⟩
   · rw [h2] at h3; injection h3
   · rw [h2] at h3; cases h3
   · rw [h1] at h3; cases h3
 · rcases h' with ⟨_, h3, _⟩ | ⟨_, h3, v, rfl, h5⟩ | ⟨h3, _⟩
   · rw [h2] at h3; cases h3
   · rw [stillUpon_unique (h4 default) (h5 default)]
   · rw [h1] at h3; cases h3
 · rcases h' with ⟨h3, _⟩ | ⟨h3, _⟩ | ⟨_, h4⟩
   · rw [h1] at h3; cases h3
   · rw [h1] at h3; cases h3
   · exact h4.symm
theorem GivesD.ex {i : Nat} {o : Oper} {sp : MSpec} {a : Act} (h : GivesD P ops W0 mk dep ds Pr i o sp a) : ∃ v, sp.V v := by
 rcases h with ⟨_, _, h3, _⟩ | ⟨_, _, u, rfl, _⟩ | ⟨_, rfl⟩
 · exact h3
 · exact ⟨u, rfl⟩
 · exact ⟨undef, rfl⟩
theorem GivesD.of_same {i : Nat} {o : Oper} {sp : MSpec} {a a' : Act} (hy : GivesD P ops W0 mk dep ds Pr i o sp a) (he : execOp a'.eval o = execOp a.eval o) (hw : Region.wanted o (yielded ops a'.tmps) = Region.wanted o (yielded ops a.tmps)) (hp : ∀ z, PreE ops mk dep i a' z → PreE ops mk dep i a z) : GivesD P ops W0 mk dep ds Pr i o sp a' := by
 unfold GivesD at *
 rw [he, hw]
 rcases hy with ⟨h1, h2, h3, h4⟩ | h
 · exact .inl ⟨h1, h2, h3, fun z hz => h4 z (hp _ hz)⟩
 · exact .inr h
def dOp (P : Program) (ops : Array Oper) (W0 : World) (mk : Nat → Option MSpec) (dep : Nat → List Nat) (ds : List Nat) (Pr : Nat → Nat → Value → Value → Prop) (i : Nat) (K : Act → (World → Prop) → Prop) (a : Act) (Φ : World → Prop) : Prop :=
 match ops[i]? with
 | none => K a Φ
 | some o => ∃ sp, GivesD P ops W0 mk dep ds Pr i o sp a ∧ ∀ v, sp.V v → K (a.put o.dst v) (fun z => Φ z ∧ sp.S v z)
theorem dOp_mono {i : Nat} {a : Act} {Φ : World → Prop} {K K' : Act → (World → Prop) → Prop} (h : ∀ a Φ, K a Φ → K' a Φ) (hh : dOp P ops W0 mk dep ds Pr i K a Φ) : dOp P ops W0 mk dep ds Pr i K' a Φ := by
 unfold dOp at *
 split
 · exact h _ _ (by simpa [*] using hh)
 · rename_i o ho
   simp only [ho] at hh
   obtain ⟨sp, h1, h2⟩ := hh
   exact ⟨sp, h1, fun v hv => h _ _ (h2 v hv)⟩
theorem GivesD.dOp {i : Nat} {o : Oper} {sp : MSpec} {a : Act} {Φ : World → Prop} (hi : ops[i]? = some o) (hy : GivesD P ops W0 mk dep ds Pr i o sp a) {K : Act → (World → Prop) → Prop} (h : ∀ v, sp.V v → K (a.put o.dst v) (fun z => Φ z ∧ sp.S v z)) : dOp P ops W0 mk dep ds Pr i K a Φ := by
 unfold Go.Proofs.YtahhdjeclbagnaaGreatDoor.dOp
 simp only [hi]
 exact ⟨sp, hy, h⟩
theorem dOp_put {i j k : Nat} {oi oj : Oper} {sp : MSpec} (hB : depB ops k ds dep = true) (hi : ops[i]? = some oi) (hik : i < k) (hjk : j < k) (hj : ops[j]? = some oj) (hap : oi.apart ops oj = true) (hsi : ∀ cs b, oi.op ≠ .select cs b) (hsj : ∀ cs b, oj.op ≠ .select cs b) {K : Act → (World → Prop) → Prop} {a : Act} {Φ : World → Prop}
 (hy : GivesD P ops W0 mk dep ds Pr i oi sp a) (h : ∀ v, sp.V v → dOp P ops W0 mk dep ds Pr j K (a.put oi.dst v) (fun z => Φ z ∧ sp.S v z)) :
 dOp P ops W0 mk dep ds Pr j (fun a' Φ' => GivesD P ops W0 mk dep ds Pr i oi sp a' ∧ ∀ v, sp.V v → K (a'.put oi.dst v) (fun z => Φ' z ∧ sp.S v z)) a Φ := by
 obtain ⟨h1, h2, h3⟩ := Oper.apart_spec hap
 have hg : ∀ v, sp.V v → ∃ sj, GivesD P ops W0 mk dep ds Pr j oj sj a ∧ ∀ u, sj.V u → K ((a.put oi.dst v).put oj.dst u) (fun z => (Φ z ∧ sp.S v z) ∧ sj.S u z) := fun v hv => by
  have h4 := h v hv
  unfold dOp at h4
  simp only [hj] at h4
  obtain ⟨sj, h5, h6⟩ := h4
  exact ⟨sj, h5.of_same (execOp_put oj hsj a oi.dst v h1).symm (wanted_put oj a oi.dst v h1).symm (fun z hz => (pre_put hB hj hjk h1 z).2 hz), h6⟩
 obtain ⟨v0, hv0⟩ := hy.ex
 obtain ⟨sj, hsj0, _⟩ := hg v0 hv0
 refine hsj0.dOp hj (fun u hu => ⟨hy.of_same (execOp_put oi hsi a oj.dst u h3) (wanted_put oi a oj.dst u h3) (fun z hz => (pre_put hB hi hik h3 z).1 hz), fun v hv => ?_⟩)
 obtain ⟨sj', hs', hK⟩ := hg v hv
 obtain rfl := hs'.unique hsj0
 have hK' := hK u hu
 rw [Act.put_comm a v u h2] at hK'
 rw [show (fun z => (Φ z ∧ sj'.S u z) ∧ sp.S v z) = (fun z => (Φ z ∧ sp.S v z) ∧ sj'.S u z) from funext fun z => propext and_right_comm]
 exact hK'
def anyD (P : Program) (md : Region.Mode) (ops : Array Oper) (W0 : World) (mk : Nat → Option MSpec) (dep : Nat → List Nat) (ds : List Nat) (Pr : Nat → Nat → Value → Value → Prop) (S : Nat → Array Bool → Act → (World → Prop) → Prop) (k : Nat) : Nat → Array Bool → Act → (World → Prop) → Prop
 | 0, listed, a, Φ => upToB k listed = true ∧ S 0 listed a Φ
 | fuel + 1, listed, a, Φ =>
  (upToB k listed = true → S (fuel + 1) listed a Φ) ∧
  (upToB k listed = false → Region.ready md ops listed ≠ [] ∧ ∀ i ∈ Region.ready md ops listed, i < k → dOp P ops W0 mk dep ds Pr i (anyD P md ops W0 mk dep ds Pr S k fuel (listed.setIfInBounds i true)) a Φ)
theorem anyD_first {S : Nat → Array Bool → Act → (World → Prop) → Prop} {k i : Nat} {oi : Oper} {sp : MSpec} (hB : depB ops k ds dep = true) (hik : i < k) (hi : ops[i]? = some oi) (hsel : ∀ (j : Nat) (o : Oper) cs b, ops[j]? = some o → o.op ≠ .select cs b) :
 ∀ (fuel : Nat) (listed : Array Bool) (a : Act) (Φ : World → Prop), Down md ops listed →
  (∀ j oj, ops[j]? = some oj → j ≠ i → listed.getD j true = false → (∀ e ∈ oj.after, Region.binds md e = true → e.on ≠ i) → oi.apart ops oj = true) →
  i ∈ Region.ready md ops listed → GivesD P ops W0 mk dep ds Pr i oi sp a →
  (∀ v, sp.V v → anyD P md ops W0 mk dep ds Pr S k fuel (listed.setIfInBounds i true) (a.put oi.dst v) (fun z => Φ z ∧ sp.S v z)) → anyD P md ops W0 mk dep ds Pr S k (fuel + 1) listed a Φ := by
 intro fuel
 induction fuel with
 | zero =>
  intro listed a Φ hd _ hr hy H
  refine ⟨fun hu => (by rw [upToB_ready hik hr] at hu; cases hu), fun _ => ⟨fun e => (by rw [e] at hr; cases hr), fun j hj hjk => ?_⟩⟩
  by_cases hji : j = i
  · subst hji; exact hy.dOp hi H
  · have h1 := upToB_ready hjk (ready_mono hj hji)
    obtain ⟨v, hv⟩ := hy.ex
    rw [(H v hv).1] at h1
    cases h1
 | succ fuel ih =>
  intro listed a Φ hd hfree hr hy H
  refine ⟨fun hu => (by rw [upToB_ready hik hr] at hu; cases hu), fun _ => ⟨fun e => (by rw [e] at hr; cases hr), fun j hj hjk => ?_⟩⟩
  by_cases hji : j = i
  · subst hji; exact hy.dOp hi H
  · have h1 := fun v hv => ((H v hv).2 (upToB_ready hjk (ready_mono hj hji))).2 j (ready_mono hj hji) hjk
    obtain ⟨hjun, oj, hoj, hall⟩ := mem_ready.1 hj
    have hnot : ∀ e ∈ oj.after, Region.binds md e = true → e.on ≠ i := fun e he hb heq => by
     have h2 := hall e he hb
     rw [heq, ready_unlisted hr] at h2
     cases h2
    have h2 := dOp_put hB hi hik hjk hoj (hfree j oj hoj hji hjun hnot) (fun cs b => hsel i oi cs b hi) (fun cs b => hsel j oj cs b hoj) hy h1
    have hfree' : ∀ k ok, ops[k]? = some ok → k ≠ i → (listed.setIfInBounds j true).getD k true = false →
     (∀ e ∈ ok.after, Region.binds md e = true → e.on ≠ i) → oi.apart ops ok = true := fun k ok hk hki hun hno => by
     refine hfree k ok hk hki ?_ hno
     by_cases hjk : j = k
     · subst hjk; exact hjun
     · rw [getD_set_ne true hjk] at hun; exact hun
    refine dOp_mono (fun a' Φ' h3 => ih (listed.setIfInBounds j true) a' Φ' (hd.set hj) hfree' (ready_mono hr (Ne.symm hji)) h3.1 ?_) h2
    intro v hv
    rw [Array.setIfInBounds_comm _ _ hji]
    exact h3.2 v hv
def wpD (P : Program) (ops : Array Oper) (W0 : World) (mk : Nat → Option MSpec) (dep : Nat → List Nat) (ds : List Nat) (Pr : Nat → Nat → Value → Value → Prop) (R : Act → (World → Prop) → Prop) : List Oper → Nat → Act → (World → Prop) → Prop
 | [], _, a, Φ => R a Φ
 | o :: rest, i, a, Φ =>
  if Region.wanted o (yielded ops a.tmps) then
   (match mk i with
    | some sp => ((∃ v, sp.V v) ∧ ∀ z : Bl W0, PreE ops mk dep i a z.val → makesUpon P z.val (withG sp (PairD mk ds Pr i z.val)) ((execOp a.eval o).run P z.val)) ∧ ∀ v, sp.V v → wpD P ops W0 mk dep ds Pr R rest (i + 1) (a.put o.dst v) (fun z => Φ z ∧ sp.S v z)
    | none => stillB P o a W0 (fun a' => wpD P ops W0 mk dep ds Pr R rest (i + 1) a' Φ))
  else wpD P ops W0 mk dep ds Pr R rest (i + 1) (a.put o.dst undef) Φ
theorem wpD_nil {R : Act → (World → Prop) → Prop} {i : Nat} {a : Act} {Φ : World → Prop} (h : R a Φ) : wpD P ops W0 mk dep ds Pr R [] i a Φ := h
theorem wpD_still {R : Act → (World → Prop) → Prop} {i : Nat} {a : Act} {Φ : World → Prop} {o : Oper} {rest : List Oper} (hmk : mk i = none)
 (h : ∀ K : Act → Prop, (∀ a, wpD P ops W0 mk dep ds Pr R rest (i + 1) a Φ → K a) → if Region.wanted o (yielded ops a.tmps) then stillB P o a W0 K else K (a.put o.dst undef)) : wpD P ops W0 mk dep ds Pr R (o :: rest) i a Φ := by
 have h1 := h _ (fun _ h => h)
 unfold wpD
 rw [hmk]
 exact h1
theorem wpD_make {R : Act → (World → Prop) → Prop} {i : Nat} {a : Act} {Φ : World → Prop} {o : Oper} {rest : List Oper} (sp : MSpec) (hmk : mk i = some sp) (hg : o.guard = none)
 (h0 : ∃ v, sp.V v) (h1 : ∀ z : Bl W0, PreE ops mk dep i a z.val → makesUpon P z.val (withG sp (PairD mk ds Pr i z.val)) ((execOp a.eval o).run P z.val)) (h2 : ∀ v, sp.V v → wpD P ops W0 mk dep ds Pr R rest (i + 1) (a.put o.dst v) (fun z => Φ z ∧ sp.S v z)) : wpD P ops W0 mk dep ds Pr R (o :: rest) i a Φ := by
 have hw : Region.wanted o (yielded ops a.tmps) = true := by simp [Region.wanted, hg]
 unfold wpD
 rw [hmk, if_pos hw]
 exact ⟨⟨h0, h1⟩, h2⟩
theorem anyD_lex {S : Nat → Array Bool → Act → (World → Prop) → Prop} {R : Act → (World → Prop) → Prop} {k m : Nat} (hdp : depB ops k ds dep = true) (hs : Region.noSelect ops = true)
 (hR : ∀ (a : Act) (Φ Φ' : World → Prop), (∀ z, Φ' z → Φ z) → R a Φ → R a Φ')
 (hS : ∀ listed a Φ, upToB k listed = true → preFrom.oneFrom md ops (ops.size - k) k listed = true → R a Φ → S m listed a Φ) (is : List Nat) : ∀ (q : Nat) (l : List Oper) (listed : Array Bool) (a : Act) (Φ Φ' : World → Prop), is = (List.range' q l.length) → is.map (fun i => ops[i]?) = l.map some → Down md ops listed →
 preIs md ops k is listed = true → (∀ z, Φ' z → Φ z) → wpD P ops W0 mk dep ds Pr R l q a Φ → anyD P md ops W0 mk dep ds Pr S k (is.length + m) listed a Φ' := by
 induction is with
 | nil =>
  intro q l listed a Φ Φ' hq hl _ hB hΦ h
  obtain rfl : l = [] := by
   cases l with
   | nil => rfl
   | cons x l => simp at hl
  simp only [preIs, Bool.and_eq_true] at hB
  have h1 := hS listed a Φ' hB.1 hB.2 (hR _ _ _ hΦ h)
  rw [List.length_nil, Nat.zero_add]
  cases m with
  | zero => exact ⟨hB.1, h1⟩
  | succ m => exact ⟨fun _ => h1, fun e => (by rw [hB.1] at e; cases e)⟩
 | cons i is ih =>
  intro q l listed a Φ Φ' hq hl hd hB hΦ h
  cases l with
  | nil => simp at hl
  | cons o l =>
   simp only [List.length_cons, List.range'_succ, List.cons.injEq] at hq
   obtain ⟨rfl, hq⟩ := hq
   simp only [List.map_cons, List.cons.injEq] at hl
   obtain ⟨h0, hl⟩ := hl
   simp only [preIs, Bool.and_eq_true, decide_eq_true_eq] at hB
   obtain ⟨⟨⟨hik, hr⟩, hf⟩, hB'⟩ := hB
   have hr' : i ∈ Region.ready md ops listed := by simpa using hr
   have hst : ∃ sp, GivesD P ops W0 mk dep ds Pr i o sp a ∧ ∀ v, sp.V v → ∃ Φ2 : World → Prop, (∀ z, Φ' z ∧ sp.S v z → Φ2 z) ∧ wpD P ops W0 mk dep ds Pr R l (i + 1) (a.put o.dst v) Φ2 := by
    unfold wpD at h
    by_cases hw : Region.wanted o (yielded ops a.tmps) = true
    · rw [if_pos hw] at h
      cases hm : mk i with
      | none =>
       rw [hm] at h
       obtain ⟨u, h1, h2⟩ := h
       refine ⟨one u, .inr (.inl ⟨hw, hm, u, rfl, h1⟩), ?_⟩
       rintro v rfl
       exact ⟨Φ, fun z hz => hΦ z hz.1, h2⟩
      | some sp =>
       rw [hm] at h
       exact ⟨sp, .inl ⟨hw, hm, h.1.1, h.1.2⟩, fun v hv => ⟨_, fun z hz => ⟨hΦ z hz.1, hz.2⟩, h.2 v hv⟩⟩
    · rw [if_neg hw] at h
      refine ⟨one undef, .inr (.inr ⟨by simpa using hw, rfl⟩), ?_⟩
      rintro v rfl
      exact ⟨Φ, fun z hz => hΦ z hz.1, h⟩
   obtain ⟨sp, hy, hK⟩ := hst
   have ih' : ∀ v, sp.V v → anyD P md ops W0 mk dep ds Pr S k (is.length + m) (listed.setIfInBounds i true) (a.put o.dst v) (fun z => Φ' z ∧ sp.S v z) := fun v hv => by
    obtain ⟨Φ2, h1, h2⟩ := hK v hv
    exact ih (i + 1) l (listed.setIfInBounds i true) (a.put o.dst v) Φ2 _ hq hl (hd.set hr') hB' h1 h2
   have h9 := anyD_first (S := S) hdp hik h0 (Region.noSelect_spec hs) _ listed a Φ' hd (Region.free_spec h0 hf) hr' hy ih'
   have e : (i :: is).length + m = is.length + m + 1 := by simp; omega
   rw [e]
   exact h9
theorem wpOpIn_of_givesD {i : Nat} {o : Oper} {sp : MSpec} {a : Act} {K' : Act → World → Prop} (hF : Lax F P) (ho : ops[i]? = some o) (hd : notDefer o = true) (z : Bl W0) (hy : GivesD P ops W0 mk dep ds Pr i o sp a) (hpre : PreE ops mk dep i a z.val) (hgd : i ∈ ds → o.guard = none)
 (h : ∀ v, sp.V v → (∀ si, mk i = some si → PairD mk ds Pr i z.val v) → ∀ z' : Bl W0, Below z.val.heap.size z.val z'.val → sp.S v z'.val → K' (a.put o.dst v) z'.val) : wpOpIn F n P ops Q i K' a z.val := by
 unfold wpOpIn
 simp only [ho]
 rcases hy with ⟨hw, _, _, hv⟩ | ⟨hw, hnn, u, rfl, hv⟩ | ⟨hw, rfl⟩
 · rw [hw, if_pos rfl]
   refine ⟨fun f _ => hF.fn f, ?_⟩
   rw [Oper.semAt_plain F _ _ (notDefer_spec hd)]
   have h3 := hv z hpre
   generalize (execOp a.eval o).run P z.val = r at *
   cases r with
   | ok x w' =>
    cases x <;> simp only [makesUpon, withG] at h3
    case value u => exact h u h3.1.1 (fun _ _ => h3.1.2) ⟨w', Below.step z.prop h3.2.2⟩ h3.2.2 h3.2.1
    case enter f args =>
     obtain ⟨e1, hc⟩ := h3
     subst e1
     refine ⟨fun e => (by rw [hF.depth] at e; cases e), (hF.calls _ _ _ _ _ hc).mono ?_⟩
     rintro e w'' ⟨v, rfl, h4, h5, h6⟩
     exact h v h4.1 (fun _ _ => h4.2) ⟨w'', Below.step z.prop h6⟩ h6 h5
   | halt x w' => simp only [makesUpon] at h3
 · rw [hw, if_pos rfl]
   refine ⟨fun f _ => hF.fn f, ?_⟩
   rw [Oper.semAt_plain F _ _ (notDefer_spec hd)]
   have h3 := hv z
   generalize (execOp a.eval o).run P z.val = r at *
   cases r with
   | ok x w' =>
    cases x <;> simp only [stillUpon] at h3
    case value u =>
     obtain ⟨e1, e2⟩ := h3
     subst e1 e2
     exact h _ rfl (fun si hsi => by rw [hnn] at hsi; cases hsi) z (Below.refl _ _) trivial
    case skip =>
     obtain ⟨e1, e2⟩ := h3
     subst e1 e2
     exact h _ rfl (fun si hsi => by rw [hnn] at hsi; cases hsi) z (Below.refl _ _) trivial
   | halt x w' => simp only [stillUpon] at h3
 · rw [hw, if_neg (by simp)]
   exact ⟨fun f _ => hF.fn f, h _ rfl (fun _ _ hds => by rw [Region.wanted, hgd hds] at hw; simp at hw) z (Below.refl _ _) trivial⟩
theorem GivesD.keeps {i : Nat} {o : Oper} {sp : MSpec} {a : Act} (hy : GivesD P ops W0 mk dep ds Pr i o sp a) (hk : ∀ i sp, mk i = some sp → sp.Keeps) : sp.Keeps := by
 rcases hy with ⟨_, h, _⟩ | ⟨_, _, u, rfl, _⟩ | ⟨_, rfl⟩
 · exact hk i sp h
 · exact fun _ _ _ _ _ => trivial
 · exact fun _ _ _ _ _ => trivial
theorem GivesD.spec_of {i : Nat} {o : Oper} {sp sp' : MSpec} {a : Act} (h : GivesD P ops W0 mk dep ds Pr i o sp a) (hw : mk i = some sp') : Region.wanted o (yielded ops a.tmps) = true → sp = sp' := fun hx => by
 rcases h with ⟨_, h2, _, _⟩ | ⟨_, h2, _⟩ | ⟨h2, _⟩
 · rw [hw] at h2; injection h2 with h2; exact h2.symm
 · rw [hw] at h2; cases h2
 · rw [hx] at h2; cases h2
theorem wpAnyIn_of_anyD {k : Nat} (hF : Lax F P) (hdef : ∀ (i : Nat) o, ops[i]? = some o → i < k → notDefer o = true) {X : List Nat} (hn : needBX ops k X = true) (hsel : Region.noSelect ops = true) (hfx : freeXB ops X = true) (hmx : ∀ e ∈ X, mk e = none) (hro : X = [] ∨ F.round = none) (hQ : ∀ e ∈ X, ∀ (o : Oper) (v : Value) c a w, ops[e]? = some o → Q (.panic c) (a.put o.dst v) w → Q (.panic c) a w) (hk : ∀ i sp, mk i = some sp → sp.Keeps) (hdp : depB ops k ds dep = true) : ∀ (fuel : Nat) (listed : Array Bool) (a : Act) (Φ : World → Prop) (z : Bl W0), Down .any ops listed → listed.size = ops.size → BndE ops ds a → (∀ p ∈ ds, p < k) → PairsA ops mk ds Pr (fun p => listed.getD p false) a → FactsE ops mk ds listed a z.val → (∀ z z', Φ z → Below z.heap.size z z' → Φ z') → Φ z.val →
 anyD P .any ops W0 mk dep ds Pr (fun fuel listed a Φ => PairsA ops mk ds Pr (fun _ => true) a → ∀ z : Bl W0, Φ z.val → wpAnyIn F n P .any ops Q fuel listed a z.val) k fuel listed a Φ → wpAnyIn F n P .any ops Q fuel listed a z.val
 | 0, _, _, _, z, _, _, _, hkd, hpa, _, _, hz, h => h.2 (fun p hp q hq hne _ _ => hpa p hp q hq hne (upToB_spec.1 h.1 p (hkd p hp)) (upToB_spec.1 h.1 q (hkd q hq))) z hz
 | fuel + 1, listed, a, Φ, z, hd, hls, hbn, hkd, hpa, hfa, hΦ, hz, h => by
  have hd' := hd
  cases hu : upToB k listed with
  | true => exact h.1 hu (fun p hp q hq hne _ _ => hpa p hp q hq hne (upToB_spec.1 hu p (hkd p hp)) (upToB_spec.1 hu q (hkd q hq))) z hz
  | false =>
   obtain ⟨hne, hall⟩ := h.2 hu
   by_cases hx : ∃ e ∈ X, e ∈ Region.ready .any ops listed
   · obtain ⟨e, heX, her⟩ := hx
     obtain ⟨hek, o, ho, _⟩ := needBX_pure hn heX
     obtain ⟨hpu, hap⟩ := freeXB_spec hfx heX ho
     have hroF : F.round = none := by
      rcases hro with h | h
      · rw [h] at heX; cases heX
      · exact h
     have h1 := hall e her hek
     unfold dOp at h1
     simp only [ho] at h1
     obtain ⟨sp, hy, hK⟩ := h1
     have hil : e < listed.size := by rw [hls]; exact (Array.getElem?_eq_some_iff.1 ho).1
     have hwd : Region.wanted o (yielded ops a.tmps) = true := by
      simp only [pureOp, Bool.and_eq_true, Option.isNone_iff_eq_none] at hpu
      simp [Region.wanted, hpu.1]
     rcases hy with ⟨_, h2, _⟩ | ⟨_, _, u, rfl, h4⟩ | ⟨h2, _⟩
     · rw [hmx e heX] at h2; cases h2
     · refine wpAnyIn_first hroF ho (Region.noSelect_spec hsel) (fun c a w => hQ e heX o u c a w ho) fuel listed a z.val (fun j oj hj hne hun hno => ?_) her (pure_yields hpu (h4 z)) ?_
       · rcases hap j oj hj hne with h5 | h5 | h5
         · obtain ⟨d, hd1, hd2, hd3⟩ := waits_of_edge hj h5
           exact absurd hd3 (hno d hd1 hd2)
         · have h6 := waits_ready h5 her
           have h7 : j < listed.size := by rw [hls]; exact (Array.getElem?_eq_some_iff.1 hj).1
           simp [h7] at h6 hun
           rw [h6] at hun
           cases hun
         · exact h5
       · exact wpAnyIn_of_anyD hF hdef hn hsel hfx hmx hro hQ hk hdp fuel _ _ _ z (hd.set her) (by simpa using hls) (fun p hp o' t ho' ht => by
          have h5 := hbn p hp o' t ho' ht
          cases hdst : o.dst with
          | none => exact h5
          | some d => simp only [Act.put, Array.size_setIfInBounds]; exact h5) hkd (pairs_put hdp hek ho hbn hfa hpa (fun si hsi => by rw [hmx e heX] at hsi; cases hsi)) (facts_put hdp hek ho hil hbn hfa hk (Below.refl _ _) (fun sp' hsp => by rw [hmx e heX] at hsp; cases hsp)) (fun x y hx hxy => ⟨hΦ x y hx.1 hxy, trivial⟩) ⟨hz, trivial⟩ (hK u rfl)
     · rw [hwd] at h2; cases h2
   · refine ⟨fun e => absurd e hne, fun i hi => ?_⟩
     have hik : i < k := by
      rcases Nat.lt_or_ge i k with h1 | h1
      · exact h1
      · have hall2 : upToB k listed = true := upToB_spec.2 (fun q hq => by
         by_cases hqX : q ∈ X
         · obtain ⟨_, oq, hoq, hedges⟩ := needBX_pure hn hqX
           by_cases hql : listed.getD q false = true
           · exact hql
           · exfalso
             refine hx ⟨q, hqX, mem_ready.2 ⟨?_, oq, hoq, fun d hd hb => ?_⟩⟩
             · have h7 : q < listed.size := by rw [hls]; exact (Array.getElem?_eq_some_iff.1 hoq).1
               simp [h7] at hql ⊢
               exact hql
             · obtain ⟨h8, h9⟩ := hedges d hd hb
               exact needBX_spec hn hd' hi h1 _ h8 h9
         · exact needBX_spec hn hd' hi h1 q hq hqX)
        rw [hall2] at hu
        cases hu
     obtain ⟨_, o, ho, _⟩ := mem_ready.1 hi
     have h1 := hall i hi hik
     unfold dOp at h1
     simp only [ho] at h1
     obtain ⟨sp, hy, hK⟩ := h1
     have hks := hy.keeps hk
     have hil : i < listed.size := by rw [hls]; exact (Array.getElem?_eq_some_iff.1 ho).1
     have hpre : PreE ops mk dep i a z.val := fun p hp sp' hsp o' t ho' ht => by
      have hm := (depB_spec hdp).1 i hik p hp o' t o ho' ht ho
      exact hfa p hm.1 (waits_ready_any hm.2.1 hi) sp' hsp o' t ho' ht
     refine wpOpIn_of_givesD hF ho (hdef i o ho hik) z hy hpre (fun hds => (depB_spec hdp).2.2 i hds o ho) (fun v hv hpd z' hz' hS => ?_)
     exact wpAnyIn_of_anyD hF hdef hn hsel hfx hmx hro hQ hk hdp fuel _ _ _ z' (hd.set hi) (by simpa using hls) (fun p hp o' t ho' ht => by
      have h5 := hbn p hp o' t ho' ht
      cases hdst : o.dst with
      | none => exact h5
      | some d => simp only [Act.put, Array.size_setIfInBounds]; exact h5) hkd (pairs_put hdp hik ho hbn hfa hpa hpd) (facts_put hdp hik ho hil hbn hfa hk hz' (fun sp' hsp hds => by
       have e := hy.spec_of hsp (by simp [Region.wanted, (depB_spec hdp).2.2 i hds o ho])
       rw [e] at hS
       exact hS)) (fun x y hx hxy => ⟨hΦ x y hx.1 hxy, hks v x y hx.2 hxy⟩) ⟨hΦ _ _ hz hz', hS⟩ (hK v hv)
theorem wpIn_region_pair {id : Nat} {a : Act} {s : Bl W0} {l : List Oper} (k : Nat) (mk : Nat → Option MSpec) (dep : Nat → List Nat) (ds X : List Nat) (Pr : Nat → Nat → Value → Value → Prop) (hF : Lax F P) (hk : k ≤ l.length) (hm : P.follows .mixedOrders = true) (hB : makeBX l.toArray k X = true) (hmx : ∀ e ∈ X, mk e = none) (hro : X = [] ∨ F.round = none) (hQ : ∀ e ∈ X, ∀ (o : Oper) (v : Value) c a w, l.toArray[e]? = some o → Q (.panic c) (a.put o.dst v) w → Q (.panic c) a w) (hdp : depB l.toArray k ds dep = true) (hbd : BndE l.toArray ds a) (hks : ∀ i sp, mk i = some sp → sp.Keeps) (hkd : ∀ p ∈ ds, p < k)
 (h : wpD P l.toArray W0 mk dep ds Pr (fun a' Φ => PairsA l.toArray mk ds Pr (fun _ => true) a' → ∀ z : Bl W0, Φ z.val → wpListIn F n P l.toArray Q (l.drop k) a' z.val) (l.take k) 0 a (fun _ => True)) : (Code.region id l.toArray true).wpIn F n P Q a s.val := by
 simp only [makeBX, Bool.and_eq_true] at hB
 obtain ⟨⟨⟨⟨hs, hn⟩, hfx⟩, hp⟩, hd⟩ := hB
 have hdown : Down .any l.toArray (Array.replicate l.toArray.size false) := fun j hj => by
  exfalso
  rcases Nat.lt_or_ge j l.length with h' | h'
  · simp [h'] at hj
  · simp [h'] at hj
 refine wpIn_region_any hm ?_
 have hlen : (l.take k).length = k := by simp; omega
 have h1 := anyD_lex (md := .any) (ops := l.toArray) (P := P) (W0 := W0) (mk := mk) (dep := dep) (S := fun fuel listed a Φ => PairsA l.toArray mk ds Pr (fun _ => true) a → ∀ z : Bl W0, Φ z.val → wpAnyIn F n P .any l.toArray Q fuel listed a z.val) (k := k) (m := l.toArray.size - k) hdp hs
  (R := fun a' Φ => PairsA l.toArray mk ds Pr (fun _ => true) a' → ∀ z : Bl W0, Φ z.val → wpListIn F n P l.toArray Q (l.drop k) a' z.val)
  (fun a Φ Φ' hΦ hr hpp z hz => hr hpp z (hΦ _ hz))
  (fun listed a' Φ hu ho h0 hpp z hz => by
   have h2 := wpAnyIn_one (F := F) (n := n) (P := P) (ops := l.toArray) (Q := Q) (md := .any) (l.drop k) k listed a' z.val (fun j => by simp) (by simpa using ho) (h0 hpp z hz)
   simpa using h2)
  (List.range' 0 k) 0 (l.take k) (Array.replicate l.toArray.size false) a (fun _ => True) (fun _ => True) (by rw [hlen]) (by
   apply List.ext_getElem?
   intro j
   rw [List.getElem?_map, List.getElem?_map, List.getElem?_take]
   by_cases hj : j < k
   · rw [List.getElem?_range' hj, if_pos hj]
     have : j < l.length := by omega
     simp [this]
   · rw [if_neg hj, List.getElem?_eq_none (by simp; omega)]
     rfl) hdown hp (fun _ h => h) h
 rw [show (List.range' 0 k).length + (l.toArray.size - k) = l.toArray.size by simp; omega] at h1
 refine wpAnyIn_of_anyD hF (fun i o ho hi => ?_) hn hs hfx hmx hro hQ hks hdp _ _ _ _ ⟨s.val.drew, s.prop.drew⟩ hdown (by simp) hbd hkd (fun p hp q hq hne hl _ => (by
  have hno : (Array.replicate l.toArray.size false).getD p false = false := by
   rcases Nat.lt_or_ge p l.length with h' | h'
   · simp [h']
   · simp [h']
  simp only [hno] at hl
  cases hl)) (fun p _ hl => (by
  have hno : (Array.replicate l.toArray.size false).getD p false = false := by
   rcases Nat.lt_or_ge p l.length with h' | h'
   · simp [h']
   · simp [h']
  rw [hno] at hl
  cases hl)) (fun _ _ _ _ => trivial) trivial h1
 have h2 := List.all_eq_true.1 hd o
 refine h2 ?_
 rw [List.mem_iff_getElem?]
 exact ⟨i, by rw [List.getElem?_take, if_pos hi]; simpa using ho⟩
theorem wp_region_pair {id : Nat} {a : Act} {s : Bl W0} {l : List Oper} (k : Nat) (mk : Nat → Option MSpec) (dep : Nat → List Nat) (ds X : List Nat) (Pr : Nat → Nat → Value → Value → Prop) (hk : k ≤ l.length) (hm : P.follows .mixedOrders = true) (hB : makeBX l.toArray k X = true) (hmx : ∀ e ∈ X, mk e = none) (hQ : ∀ e ∈ X, ∀ (o : Oper) (v : Value) c a w, l.toArray[e]? = some o → Q (.panic c) (a.put o.dst v) w → Q (.panic c) a w) (hdp : depB l.toArray k ds dep = true) (hbd : BndE l.toArray ds a) (hks : ∀ i sp, mk i = some sp → sp.Keeps) (hkd : ∀ p ∈ ds, p < k)
 (h : wpD P l.toArray W0 mk dep ds Pr (fun a' Φ => PairsA l.toArray mk ds Pr (fun _ => true) a' → ∀ z : Bl W0, Φ z.val → wpListIn Fence.wide 0 P l.toArray Q (l.drop k) a' z.val) (l.take k) 0 a (fun _ => True)) : (Code.region id l.toArray true).wp P Q a s.val :=
 wpIn_wide.1 (wpIn_region_pair (n := 0) k mk dep ds X Pr (Lax.wide P) hk hm hB hmx (.inr rfl) hQ hdp hbd hks hkd h)
end
end Go.Proofs.YtahhdjeclbagnaaGreatDoor
