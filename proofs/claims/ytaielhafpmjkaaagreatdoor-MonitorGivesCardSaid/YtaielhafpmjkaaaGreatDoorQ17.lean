/-
  Once; Shift0; Seq; Shift1
-/
import Derived.Test.YtaielhafpmjkaaaGreatDoorQ16
namespace Go.Proofs.YtaielhafpmjkaaaGreatDoor
open Go.RowKit
section
variable {F : Fence} {n : Nat} {P : Program} {ops : Array Oper} {md : Region.Mode} {w0 w1 : World} {Q : Exit → Act → World → Prop} {f : Nat}
def turnsUpon (w1 : World) : Result Next → Prop
 | .ok .skip w' => w' = w1
 | _ => False
def GivesO (P : Program) (ops : Array Oper) (w0 w1 : World) (f i : Nat) (o : Oper) (v : Value) (a : Act) : Prop :=
 (Region.wanted o (yielded ops a.tmps) = true ∧ i = f ∧ v = undef ∧ turnsUpon w1 ((execOp a.eval o).run P w0)) ∨
 (Region.wanted o (yielded ops a.tmps) = true ∧ i ≠ f ∧ stillUpon w0 v ((execOp a.eval o).run P w0) ∧ stillUpon w1 v ((execOp a.eval o).run P w1)) ∨
 (Region.wanted o (yielded ops a.tmps) = false ∧ i ≠ f ∧ v = undef)
theorem GivesO.of_same {i : Nat} {o : Oper} {v : Value} {a a' : Act} (hy : GivesO P ops w0 w1 f i o v a) (he : execOp a'.eval o = execOp a.eval o) (hw : Region.wanted o (yielded ops a'.tmps) = Region.wanted o (yielded ops a.tmps)) : GivesO P ops w0 w1 f i o v a' := by
 unfold GivesO at *
 rw [he, hw]
 exact hy
def oOp (P : Program) (ops : Array Oper) (w0 w1 : World) (f i : Nat) (K : Act → Prop) (a : Act) : Prop :=
 match ops[i]? with
 | none => K a
 | some o => ∃ v, GivesO P ops w0 w1 f i o v a ∧ K (a.put o.dst v)
theorem oOp_mono {i : Nat} {a : Act} {K K' : Act → Prop} (h : ∀ a, K a → K' a) (hh : oOp P ops w0 w1 f i K a) : oOp P ops w0 w1 f i K' a := by
 unfold oOp at *
 split
 · exact h _ (by simpa [*] using hh)
 · rename_i o ho
   simp only [ho] at hh
   obtain ⟨v, h1, h2⟩ := hh
   exact ⟨v, h1, h _ h2⟩
theorem GivesO.oOp {i : Nat} {o : Oper} {v : Value} {a : Act} (hi : ops[i]? = some o) (hy : GivesO P ops w0 w1 f i o v a) {K : Act → Prop} (h : K (a.put o.dst v)) : oOp P ops w0 w1 f i K a := by
 unfold Go.Proofs.YtaielhafpmjkaaaGreatDoor.oOp
 simp only [hi]
 exact ⟨v, hy, h⟩
theorem oOp_put {i j : Nat} {oi oj : Oper} {v : Value} (hj : ops[j]? = some oj) (hap : oi.apart ops oj = true) (hsi : ∀ cs b, oi.op ≠ .select cs b) (hsj : ∀ cs b, oj.op ≠ .select cs b) {K : Act → Prop} {a : Act}
 (hy : GivesO P ops w0 w1 f i oi v a) (h : oOp P ops w0 w1 f j K (a.put oi.dst v)) : oOp P ops w0 w1 f j (fun a' => GivesO P ops w0 w1 f i oi v a' ∧ K (a'.put oi.dst v)) a := by
 obtain ⟨h1, h2, h3⟩ := Oper.apart_spec hap
 unfold oOp at h
 simp only [hj] at h
 obtain ⟨u, hu, hK⟩ := h
 have hu' : GivesO P ops w0 w1 f j oj u a := hu.of_same (execOp_put oj hsj a oi.dst v h1).symm (wanted_put oj a oi.dst v h1).symm
 refine hu'.oOp hj ⟨hy.of_same (execOp_put oi hsi a oj.dst u h3) (wanted_put oi a oj.dst u h3), ?_⟩
 rw [← Act.put_comm a v u h2]
 exact hK
def anyO (P : Program) (md : Region.Mode) (ops : Array Oper) (w0 w1 : World) (f : Nat) (S : Nat → Array Bool → Act → Prop) (k : Nat) : Nat → Array Bool → Act → Prop
 | 0, listed, a => upToB k listed = true ∧ S 0 listed a
 | fuel + 1, listed, a =>
  (upToB k listed = true → S (fuel + 1) listed a) ∧
  (upToB k listed = false → Region.ready md ops listed ≠ [] ∧ ∀ i ∈ Region.ready md ops listed, oOp P ops w0 w1 f i (anyO P md ops w0 w1 f S k fuel (listed.setIfInBounds i true)) a)
theorem anyO_first {S : Nat → Array Bool → Act → Prop} {k i : Nat} {oi : Oper} {v : Value} (hn : needB md ops k = true) (hik : i < k) (hi : ops[i]? = some oi) (hsel : ∀ (j : Nat) (o : Oper) cs b, ops[j]? = some o → o.op ≠ .select cs b) :
 ∀ (fuel : Nat) (listed : Array Bool) (a : Act), Down md ops listed →
  (∀ j oj, ops[j]? = some oj → j ≠ i → listed.getD j true = false → (∀ e ∈ oj.after, Region.binds md e = true → e.on ≠ i) → oi.apart ops oj = true) →
  i ∈ Region.ready md ops listed → GivesO P ops w0 w1 f i oi v a →
  anyO P md ops w0 w1 f S k fuel (listed.setIfInBounds i true) (a.put oi.dst v) → anyO P md ops w0 w1 f S k (fuel + 1) listed a := by
 intro fuel
 induction fuel with
 | zero =>
  intro listed a hd _ hr hy H
  refine ⟨fun hu => (by rw [upToB_ready hik hr] at hu; cases hu), fun _ => ⟨fun e => (by rw [e] at hr; cases hr), fun j hj => ?_⟩⟩
  by_cases hji : j = i
  · subst hji; exact hy.oOp hi H
  · have h1 := (upToB_side hn hik hd (ready_unlisted hr) hj hji).2
    rw [H.1] at h1
    cases h1
 | succ fuel ih =>
  intro listed a hd hfree hr hy H
  refine ⟨fun hu => (by rw [upToB_ready hik hr] at hu; cases hu), fun _ => ⟨fun e => (by rw [e] at hr; cases hr), fun j hj => ?_⟩⟩
  by_cases hji : j = i
  · subst hji; exact hy.oOp hi H
  · have h1 := (H.2 (upToB_side hn hik hd (ready_unlisted hr) hj hji).2).2 j (ready_mono hj hji)
    obtain ⟨hjun, oj, hoj, hall⟩ := mem_ready.1 hj
    have hnot : ∀ e ∈ oj.after, Region.binds md e = true → e.on ≠ i := fun e he hb heq => by
     have h2 := hall e he hb
     rw [heq, ready_unlisted hr] at h2
     cases h2
    have h2 := oOp_put hoj (hfree j oj hoj hji hjun hnot) (fun cs b => hsel i oi cs b hi) (fun cs b => hsel j oj cs b hoj) hy h1
    have hfree' : ∀ k ok, ops[k]? = some ok → k ≠ i → (listed.setIfInBounds j true).getD k true = false →
     (∀ e ∈ ok.after, Region.binds md e = true → e.on ≠ i) → oi.apart ops ok = true := fun k ok hk hki hun hno => by
     refine hfree k ok hk hki ?_ hno
     by_cases hjk : j = k
     · subst hjk; exact hjun
     · rw [getD_set_ne true hjk] at hun; exact hun
    refine oOp_mono (fun a' h3 => ih (listed.setIfInBounds j true) a' (hd.set hj) hfree' (ready_mono hr (Ne.symm hji)) h3.1 ?_) h2
    rw [Array.setIfInBounds_comm _ _ hji]
    exact h3.2
def stillO (P : Program) (o : Oper) (a : Act) (w0 w1 : World) (next : Act → Prop) : Prop := ∃ v, (stillUpon w0 v ((execOp a.eval o).run P w0) ∧ stillUpon w1 v ((execOp a.eval o).run P w1)) ∧ next (a.put o.dst v)
def wpO (P : Program) (ops : Array Oper) (w0 w1 : World) (f : Nat) (R : Act → Prop) : List Oper → Nat → Act → Prop
 | [], _, a => R a
 | o :: rest, i, a =>
  if i = f then (Region.wanted o (yielded ops a.tmps) = true ∧ turnsUpon w1 ((execOp a.eval o).run P w0)) ∧ wpO P ops w0 w1 f R rest (i + 1) (a.put o.dst undef)
  else if Region.wanted o (yielded ops a.tmps) then stillO P o a w0 w1 (fun a' => wpO P ops w0 w1 f R rest (i + 1) a') else wpO P ops w0 w1 f R rest (i + 1) (a.put o.dst undef)
theorem wpO_nil {R : Act → Prop} {i : Nat} {a : Act} (h : R a) : wpO P ops w0 w1 f R [] i a := h
theorem wpO_still {R : Act → Prop} {i : Nat} {a : Act} {o : Oper} {rest : List Oper} (hif : (i == f) = false)
 (h : ∀ K : Act → Prop, (∀ a, wpO P ops w0 w1 f R rest (i + 1) a → K a) → if Region.wanted o (yielded ops a.tmps) then stillO P o a w0 w1 K else K (a.put o.dst undef)) : wpO P ops w0 w1 f R (o :: rest) i a := by
 have h1 := h _ (fun _ h => h)
 unfold wpO
 rw [if_neg (by simpa using hif)]
 exact h1
theorem wpO_turn {R : Act → Prop} {i : Nat} {a : Act} {o : Oper} {rest : List Oper} (hif : i = f) (hg : o.guard = none) (h1 : turnsUpon w1 ((execOp a.eval o).run P w0)) (h2 : wpO P ops w0 w1 f R rest (i + 1) (a.put o.dst undef)) : wpO P ops w0 w1 f R (o :: rest) i a := by
 have hw : Region.wanted o (yielded ops a.tmps) = true := by simp [Region.wanted, hg]
 unfold wpO
 rw [if_pos hif]
 exact ⟨⟨hw, h1⟩, h2⟩
theorem anyO_lex {S : Nat → Array Bool → Act → Prop} {R : Act → Prop} {k m : Nat} (hs : Region.noSelect ops = true) (hn : needB md ops k = true)
 (hS : ∀ listed a, upToB k listed = true → preFrom.oneFrom md ops (ops.size - k) k listed = true → R a → S m listed a) (is : List Nat) : ∀ (q : Nat) (l : List Oper) (listed : Array Bool) (a : Act), is = (List.range' q l.length) → is.map (fun i => ops[i]?) = l.map some → Down md ops listed →
 preIs md ops k is listed = true → wpO P ops w0 w1 f R l q a → anyO P md ops w0 w1 f S k (is.length + m) listed a := by
 induction is with
 | nil =>
  intro q l listed a hq hl _ hB h
  obtain rfl : l = [] := by
   cases l with
   | nil => rfl
   | cons x l => simp at hl
  simp only [preIs, Bool.and_eq_true] at hB
  have h1 := hS listed a hB.1 hB.2 h
  rw [List.length_nil, Nat.zero_add]
  cases m with
  | zero => exact ⟨hB.1, h1⟩
  | succ m => exact ⟨fun _ => h1, fun e => (by rw [hB.1] at e; cases e)⟩
 | cons i is ih =>
  intro q l listed a hq hl hd hB h
  cases l with
  | nil => simp at hl
  | cons o l =>
   simp only [List.length_cons, List.range'_succ, List.cons.injEq] at hq
   obtain ⟨rfl, hq⟩ := hq
   simp only [List.map_cons, List.cons.injEq] at hl
   obtain ⟨h0, hl⟩ := hl
   simp only [preIs, Bool.and_eq_true, decide_eq_true_eq] at hB
   obtain ⟨⟨⟨hik, hr⟩, hf⟩, hB'⟩ := hB
   have hr' : i ∈ Region.ready md ops listed := by simpa using hr
   have hst : ∃ v, GivesO P ops w0 w1 f i o v a ∧ wpO P ops w0 w1 f R l (i + 1) (a.put o.dst v) := by
    unfold wpO at h
    by_cases hif : i = f
    · rw [if_pos hif] at h
      exact ⟨undef, .inl ⟨h.1.1, hif, rfl, h.1.2⟩, h.2⟩
    · rw [if_neg hif] at h
      by_cases hw : Region.wanted o (yielded ops a.tmps) = true
      · rw [if_pos hw] at h
        obtain ⟨v, ⟨h1, h2⟩, h3⟩ := h
        exact ⟨v, .inr (.inl ⟨hw, hif, h1, h2⟩), h3⟩
      · rw [if_neg hw] at h
        exact ⟨undef, .inr (.inr ⟨by simpa using hw, hif, rfl⟩), h⟩
   obtain ⟨v, hy, hK⟩ := hst
   have ih' := ih (i + 1) l (listed.setIfInBounds i true) (a.put o.dst v) hq hl (hd.set hr') hB' hK
   have h9 := anyO_first (S := S) hn hik h0 (Region.noSelect_spec hs) _ listed a hd (Region.free_spec h0 hf) hr' hy ih'
   have e : (i :: is).length + m = is.length + m + 1 := by simp; omega
   rw [e]
   exact h9
def atO (w0 w1 : World) (f : Nat) (listed : Array Bool) : World := if listed.getD f false = true then w1 else w0
theorem wpOpIn_of_givesO {i : Nat} {o : Oper} {v : Value} {a : Act} {K' : Act → World → Prop} {listed : Array Bool} (hF : Lax F P) (ho : ops[i]? = some o) (hd : notDefer o = true) (hun : listed.getD i false = false) (hsz : i < listed.size) (hy : GivesO P ops w0 w1 f i o v a)
 (h : K' (a.put o.dst v) (atO w0 w1 f (listed.setIfInBounds i true))) : wpOpIn F n P ops Q i K' a (atO w0 w1 f listed) := by
 unfold wpOpIn
 simp only [ho]
 rcases hy with ⟨hw, rfl, rfl, ht⟩ | ⟨hw, hne, hv0, hv1⟩ | ⟨hw, hne, rfl⟩
 · rw [hw, if_pos rfl]
   refine ⟨fun f _ => hF.fn f, ?_⟩
   rw [Oper.semAt_plain F _ _ (notDefer_spec hd)]
   have e0 : atO w0 w1 i listed = w0 := by unfold atO; rw [hun]; rfl
   have e1 : atO w0 w1 i (listed.setIfInBounds i true) = w1 := by
    unfold atO
    simp [hsz]
   rw [e0]
   rw [e1] at h
   generalize (execOp a.eval o).run P w0 = r at *
   cases r with
   | ok x w' =>
    cases x <;> simp only [turnsUpon] at ht
    subst ht
    exact h
   | halt x w' => simp only [turnsUpon] at ht
 · rw [hw, if_pos rfl]
   refine ⟨fun f _ => hF.fn f, ?_⟩
   rw [Oper.semAt_plain F _ _ (notDefer_spec hd)]
   have e1 : atO w0 w1 f (listed.setIfInBounds i true) = atO w0 w1 f listed := by
    unfold atO
    rw [getD_set_ne false hne]
   rw [e1] at h
   have hv : stillUpon (atO w0 w1 f listed) v ((execOp a.eval o).run P (atO w0 w1 f listed)) := by
    unfold atO
    split
    · exact hv1
    · exact hv0
   generalize (execOp a.eval o).run P (atO w0 w1 f listed) = r at *
   cases r with
   | ok x w' =>
    cases x <;> simp only [stillUpon] at hv
    case value u =>
     obtain ⟨e1, e2⟩ := hv
     subst e1 e2
     exact h
    case skip =>
     obtain ⟨e1, e2⟩ := hv
     subst e1 e2
     exact h
   | halt x w' => simp only [stillUpon] at hv
 · rw [hw, if_neg (by simp)]
   have e1 : atO w0 w1 f (listed.setIfInBounds i true) = atO w0 w1 f listed := by
    unfold atO
    rw [getD_set_ne false hne]
   rw [e1] at h
   exact ⟨fun f _ => hF.fn f, h⟩
theorem wpAnyIn_of_anyO {k : Nat} (hF : Lax F P) (hdef : ∀ (i : Nat) o, ops[i]? = some o → i < k → notDefer o = true) (hn : needB md ops k = true) : ∀ (fuel : Nat) (listed : Array Bool) (a : Act), listed.size = ops.size → Down md ops listed →
 anyO P md ops w0 w1 f (fun fuel listed a => wpAnyIn F n P md ops Q fuel listed a (atO w0 w1 f listed)) k fuel listed a → wpAnyIn F n P md ops Q fuel listed a (atO w0 w1 f listed)
 | 0, _, _, _, _, h => h.2
 | fuel + 1, listed, a, hls, hd, h => by
  cases hu : upToB k listed with
  | true => exact h.1 hu
  | false =>
   obtain ⟨hne, hall⟩ := h.2 hu
   refine ⟨fun e => absurd e hne, fun i hi => ?_⟩
   have hik : i < k := by
    rcases Nat.lt_or_ge i k with h1 | h1
    · exact h1
    · rw [upToB_spec.2 (needB_spec hn hd hi h1)] at hu
      cases hu
   obtain ⟨_, o, ho, _⟩ := mem_ready.1 hi
   have h1 := hall i hi
   unfold oOp at h1
   simp only [ho] at h1
   obtain ⟨v, hy, hK⟩ := h1
   have hil : i < listed.size := by rw [hls]; exact (Array.getElem?_eq_some_iff.1 ho).1
   refine wpOpIn_of_givesO hF ho (hdef i o ho hik) (ready_unlisted hi) hil hy ?_
   exact wpAnyIn_of_anyO hF hdef hn fuel _ _ (by simpa using hls) (hd.set hi) hK
theorem wp_region_once {id : Nat} {a : Act} {w w1 : World} {l : List Oper} (k f : Nat) (hf : f < k) (hk : k ≤ l.length) (hm : P.follows .mixedOrders = true) (hB : makeB l.toArray k = true)
 (h : wpO P l.toArray w.drew w1 f (fun a' => wpListIn Fence.wide 0 P l.toArray Q (l.drop k) a' w1) (l.take k) 0 a) : (Code.region id l.toArray true).wp P Q a w := by
 refine (wpIn_wide (n := 0)).1 ?_
 simp only [makeB, Bool.and_eq_true] at hB
 obtain ⟨⟨⟨hs, hn⟩, hp⟩, hd⟩ := hB
 have hdown : Down .any l.toArray (Array.replicate l.toArray.size false) := fun j hj => by
  exfalso
  rcases Nat.lt_or_ge j l.length with h' | h'
  · simp [h'] at hj
  · simp [h'] at hj
 refine wpIn_region_any hm ?_
 have hlen : (l.take k).length = k := by simp; omega
 have h1 := anyO_lex (md := .any) (ops := l.toArray) (P := P) (w0 := w.drew) (w1 := w1) (f := f) (S := fun fuel listed a => wpAnyIn Fence.wide 0 P .any l.toArray Q fuel listed a (atO w.drew w1 f listed)) (k := k) (m := l.toArray.size - k) hs hn
  (R := fun a' => wpListIn Fence.wide 0 P l.toArray Q (l.drop k) a' w1)
  (fun listed a' hu ho h0 => by
   have e1 : atO w.drew w1 f listed = w1 := by unfold atO; rw [upToB_spec.1 hu f hf]; rfl
   rw [e1]
   have h2 := wpAnyIn_one (F := Fence.wide) (n := 0) (P := P) (ops := l.toArray) (Q := Q) (md := .any) (l.drop k) k listed a' w1 (fun j => by simp) (by simpa using ho) h0
   simpa using h2)
  (List.range' 0 k) 0 (l.take k) (Array.replicate l.toArray.size false) a (by rw [hlen]) (by
   apply List.ext_getElem?
   intro j
   rw [List.getElem?_map, List.getElem?_map, List.getElem?_take]
   by_cases hj : j < k
   · rw [List.getElem?_range' hj, if_pos hj]
     have : j < l.length := by omega
     simp [this]
   · rw [if_neg hj, List.getElem?_eq_none (by simp; omega)]
     rfl) hdown hp h
 rw [show (List.range' 0 k).length + (l.toArray.size - k) = l.toArray.size by simp; omega] at h1
 have h3 := wpAnyIn_of_anyO (Lax.wide P) (fun i o ho hi => ?_) hn _ _ _ (by simp) hdown h1
 · have e0 : atO w.drew w1 f (Array.replicate l.toArray.size false) = w.drew := by
    unfold atO
    rw [if_neg]
    intro hc
    have : (Array.replicate l.toArray.size false).getD f false = false := by
     rcases Nat.lt_or_ge f l.length with h' | h'
     · simp [h']
     · simp [h']
    rw [this] at hc
    cases hc
   rw [e0] at h3
   exact h3
 · have h2 := List.all_eq_true.1 hd o
   refine h2 ?_
   rw [List.mem_iff_getElem?]
   exact ⟨i, by rw [List.getElem?_take, if_pos hi]; simpa using ho⟩
end
end Go.Proofs.YtaielhafpmjkaaaGreatDoor
namespace Go.Proofs.YtaielhafpmjkaaaGreatDoor
open Go.RowKit
theorem WorkAt.gh_ne {w0 w : World} {g : Nat} {v : CV} {C : KCon} {t : TV} {s : KState} {gh gu gm : Nat} (h : WorkAt w0 w g v C t s gh gu gm) : g ≠ gh := fun e => by
 subst e
 obtain ⟨cur, hc⟩ := h.holders.block_type
 have h2 := h.head.symm.trans hc
 simp at h2
theorem WorkAt.gu_ne {w0 w : World} {g : Nat} {v : CV} {C : KCon} {t : TV} {s : KState} {gh gu gm : Nat} (h : WorkAt w0 w g v C t s gh gu gm) : g ≠ gu := fun e => by
 subst e
 obtain ⟨cur, hc⟩ := h.used.block_type
 have h2 := h.head.symm.trans hc
 simp at h2
theorem WorkAt.holderSet {w0 w : World} {g : Nat} {v : CV} {C : KCon} {off thc : Nat} {tu tm : SV} {s : KState} {gh gu gm : Nat} (h : WorkAt w0 w g v C ⟨⟨some ⟨gh, off, none⟩, thc⟩, tu, tm⟩ s gh gu gm) {i : Nat} (hi : i < s.holders.length) (x : Int) :
 WorkAt w0 (w.setCell ⟨gh, off + i, none⟩ (.int .i64 x)) g v C ⟨⟨some ⟨gh, off, none⟩, thc⟩, tu, tm⟩ ⟨s.day, s.holders.set i x, s.used, s.marks⟩ gh gu gm := by
 have hr := h.holders.store (k := i) (by omega) (.int .i64 x)
 have hu : Upd (fun k => k = gh) w (w.setCell ⟨gh, off + i, none⟩ (.int .i64 x)) := (Upd.refl (fun k => k = gh) w).setCell (.inl rfl) _
 rw [show (ints s.holders).set i (.int .i64 x) = ints (s.holders.set i x) by simp [ints, List.map_set]] at hr
 exact ⟨by simpa using hu.keep h.head h.gh_ne, h.con, h.below.trans (hu.below h.below.size (fun k hk => by rw [hk]; exact h.newH)),
  by simpa using hr,
  h.used.keep hu (fun k hk e => by injection hk with hk; subst hk; exact h.used.blocks_ne h.holders (by decide) e),
  h.marks.keep hu (fun k hk e => by injection hk with hk; subst hk; exact h.marks.blocks_ne h.holders (by decide) e), h.newG, h.newH, h.newU, h.newM⟩
theorem WorkAt.usedSet {w0 w : World} {g : Nat} {v : CV} {C : KCon} {off tuc : Nat} {th tm : SV} {s : KState} {gh gu gm : Nat} (h : WorkAt w0 w g v C ⟨th, ⟨some ⟨gu, off, none⟩, tuc⟩, tm⟩ s gh gu gm) {i : Nat} (hi : i < s.used.length) (x : Bool) :
 WorkAt w0 (w.setCell ⟨gu, off + i, none⟩ (.bool x)) g v C ⟨th, ⟨some ⟨gu, off, none⟩, tuc⟩, tm⟩ ⟨s.day, s.holders, s.used.set i x, s.marks⟩ gh gu gm := by
 have hr := h.used.store (k := i) (by omega) (.bool x)
 have hu : Upd (fun k => k = gu) w (w.setCell ⟨gu, off + i, none⟩ (.bool x)) := (Upd.refl (fun k => k = gu) w).setCell (.inl rfl) _
 rw [show (bools s.used).set i (.bool x) = bools (s.used.set i x) by simp [bools, List.map_set]] at hr
 exact ⟨by simpa using hu.keep h.head h.gu_ne, h.con, h.below.trans (hu.below h.below.size (fun k hk => by rw [hk]; exact h.newU)),
  h.holders.keep hu (fun k hk e => by injection hk with hk; subst hk; exact h.holders.blocks_ne h.used (by decide) e),
  by simpa using hr,
  h.marks.keep hu (fun k hk e => by injection hk with hk; subst hk; exact h.marks.blocks_ne h.used (by decide) e), h.newG, h.newH, h.newU, h.newM⟩
theorem WorkAt.daySet {w0 w : World} {g : Nat} {v : CV} {C : KCon} {t : TV} {s : KState} {gh gu gm : Nat} (h : WorkAt w0 w g v C t s gh gu gm) (x : Int) :
 WorkAt w0 (w.setCell ⟨g, 7, none⟩ (.int .i64 x)) g v C t ⟨x, s.holders, s.used, s.marks⟩ gh gu gm := by
 have hu : Upd (fun k => k = g) w (w.setCell ⟨g, 7, none⟩ (.int .i64 x)) := (Upd.refl (fun k => k = g) w).setCell (.inl rfl) _
 exact ⟨by have h2 := heap_setCell_same (i := 7) h.head (.int .i64 x); simpa using h2, h.con, h.below.trans (hu.below h.below.size (fun k hk => by rw [hk]; exact h.newG)),
  h.holders.keep hu (fun k hk e => by injection hk with hk; subst hk; exact h.gh_ne e.symm),
  h.used.keep hu (fun k hk e => by injection hk with hk; subst hk; exact h.gu_ne e.symm),
  h.marks.keep hu (fun k hk e => by injection hk with hk; subst hk; exact h.gm_ne e.symm), h.newG, h.newH, h.newU, h.newM⟩
theorem WorkAt.ownFrom {β : Type} {w0 : World} {g : Nat} {v : CV} {C : KCon} {t : TV} {gh gu gm : Nat} (f : β → KState) (B : Nat) (hB : w0.heap.size ≤ B) : OwnFrom B (fun (s : β) W => WorkAt w0 W g v C t (f s) gh gu gm) := by
 intro s W W' row h hg hr
 have hne : ∀ (k : Nat) (cur : Array Value) (e : TypeId), W.heap[k]? = some (.cells cur e (0, 0)) → row ≠ some k := fun k cur e hk er => by
  obtain ⟨_, o, ho, hc⟩ := hr k er
  rw [hk] at ho
  injection ho with ho
  subst ho
  simp [Obj.isCells] at hc
 have hu := Upd.of_grown hg
 obtain ⟨c1, h1⟩ := h.holders.block_type
 obtain ⟨c2, h2⟩ := h.used.block_type
 obtain ⟨c3, h3⟩ := h.marks.block_type
 exact ⟨hu.keep h.head (hne _ _ _ h.head), h.con, h.below.trans (hu.below h.below.size (fun k hk => Nat.le_trans hB (hr k hk).1)),
  h.holders.keep hu (fun k hk => by injection hk with hk; subst hk; exact hne _ _ _ h1),
  h.used.keep hu (fun k hk => by injection hk with hk; subst hk; exact hne _ _ _ h2),
  h.marks.keep hu (fun k hk => by injection hk with hk; subst hk; exact hne _ _ _ h3), h.newG, h.newH, h.newU, h.newM⟩
theorem Upd.ownFrom {β : Type} {S : Nat → Prop} {w0 : World} (B : Nat) (hB : w0.heap.size ≤ B) : OwnFrom B (fun (_ : β) W => Upd S w0 W) := by
 intro s W W' row h hg hr
 refine h.trans (Upd.of_grown hg) (fun i hi e => ?_)
 have h1 := (hr i e).1
 omega
theorem Upd.cell {S : Nat → Prop} {w w' : World} (h : Upd S w w') {b o : Nat} (hb : b < w.heap.size) (hn : ¬ S b) : w'.cell? ⟨b, o, none⟩ = w.cell? ⟨b, o, none⟩ := by
 simp only [World.cell?, h.block b hb hn]
theorem Upd.frozen {S : Nat → Prop} {w w' : World} (h : Upd S w w') {b o : Nat} (hb : b < w.heap.size) (hn : ¬ S b) : w'.frozen? ⟨b, o, none⟩ = w.frozen? ⟨b, o, none⟩ := by
 simp only [World.frozen?, h.block b hb hn]
theorem WorkAt.keeps {w0 w w' : World} {g : Nat} {v : CV} {C : KCon} {t : TV} {s : KState} {gh gu gm : Nat} (h : WorkAt w0 w g v C t s gh gu gm) (hu : Upd (Works g gh gu gm) w w') : KeepsOthers w w' := by
 obtain ⟨c1, h1⟩ := h.holders.block_type
 obtain ⟨c2, h2⟩ := h.used.block_type
 obtain ⟨c3, h3⟩ := h.marks.block_type
 have hne : ∀ (k : Nat) (cur : Array Value) (e : TypeId) (o : Obj), w.heap[k]? = some (.cells cur e (0, 0)) → w.heap[k]? = some o → o.isCells = false → False := fun k cur e o hk ho hc => by
  rw [hk] at ho
  injection ho with ho
  subst ho
  simp [Obj.isCells] at hc
 refine ⟨hu.size, fun k o hk ho => hu.keep hk (fun e => ?_)⟩
 rcases e with rfl | rfl | rfl | rfl
 · exact hne _ _ _ _ h.head hk ho
 · exact hne _ _ _ _ h1 hk ho
 · exact hne _ _ _ _ h2 hk ho
 · exact hne _ _ _ _ h3 hk ho
theorem WorkAt.notNew {w0 w : World} {g : Nat} {v : CV} {C : KCon} {t : TV} {s : KState} {gh gu gm : Nat} (h : WorkAt w0 w g v C t s gh gu gm) {k : Nat} (hk : w.heap.size ≤ k) : ¬ Works g gh gu gm k := by
 obtain ⟨c1, h1⟩ := h.holders.block_type
 obtain ⟨c2, h2⟩ := h.used.block_type
 obtain ⟨c3, h3⟩ := h.marks.block_type
 have e0 := lt_of_heap h.head
 have e1 := lt_of_heap h1
 have e2 := lt_of_heap h2
 have e3 := lt_of_heap h3
 rintro (e | e | e | e) <;> omega
end Go.Proofs.YtaielhafpmjkaaaGreatDoor
namespace Go.Proofs.YtaielhafpmjkaaaGreatDoor
open Go.RowKit
theorem runningSeq_any (A : Option Addr) (w : World) : Calls Tryz.prog 68 #[.pointer A] w (fun e w' => e = .returned (.func (.func 100) #[] #[.pointer (some ⟨w.heap.size, 0, none⟩)]) ∧ w' = w.alloc (.cells #[.pointer A] 82)) := by
 go_enter Tryz.func68, Tryz.ntmps68
 go_wp2
 go_ret
 exact ⟨rfl, rfl⟩
end Go.Proofs.YtaielhafpmjkaaaGreatDoor
namespace Go.Proofs.YtaielhafpmjkaaaGreatDoor
open Go.RowKit Go.Shelf
attribute [local go_sem] Oper.semAt_some
def shiftMark (C : KCon) (give tgt : Int) (i : Nat) (ms : List KMark) : List KMark :=
 match C.clauses[i]?, ms[i]? with
 | some k, some m => cond ((k.kind != 4) && (k.role == give)) (ms.set i ⟨m.status, m.left, m.got, tgt, m.paused⟩) ms
 | _, _ => ms
theorem shiftMark_len (C : KCon) (give tgt : Int) (i : Nat) (ms : List KMark) : (shiftMark C give tgt i ms).length = ms.length := by
 unfold shiftMark
 split
 · rename_i k m _ _
   cases ((k.kind != 4) && (k.role == give)) <;> simp
 · rfl
theorem shiftMark_other (C : KCon) (give tgt : Int) (i : Nat) (ms : List KMark) (j : Nat) (h : j ≠ i) : (shiftMark C give tgt i ms)[j]? = ms[j]? := by
 unfold shiftMark
 split
 · rename_i k m _ _
   cases ((k.kind != 4) && (k.role == give))
   · rfl
   · simp only [cond_true]
     rw [List.getElem?_set, if_neg (fun e => h e.symm)]
 · rfl
def KCon.shift (C : KCon) (i : Nat) (a : KAct) (s : KState) : KState :=
 ⟨s.day, s.holders.set a.give.toNat a.tgt, s.used.set i true, cond (a.kind != 3) s.marks ((runsTo s.marks s.marks.length).foldl (fun ms j => shiftMark C a.give a.tgt j ms) s.marks)⟩
theorem foldl_len (upd : Nat → List KMark → List KMark) (hul : ∀ i ms, (upd i ms).length = ms.length) : ∀ (l : List Nat) (ms : List KMark), (l.foldl (fun ms i => upd i ms) ms).length = ms.length
 | [], _ => rfl
 | x :: l, ms => by rw [List.foldl_cons, foldl_len upd hul l, hul]
set_option maxRecDepth 100000 in
set_option maxHeartbeats 4000000 in
theorem shift_any {w0 w : World} {g : Nat} {v : CV} {C : KCon} {t : TV} {s : KState} {gh gu gm : Nat} (h : WorkAt w0 w g v C t s gh gu gm) (i : Nat) (a : KAct) (ha : C.acts[i]? = some a) (hiu : i < s.used.length) (hg0 : 0 ≤ a.give) (hg1 : a.give < s.holders.length) (hlen : s.marks.length = C.clauses.length) :
 Calls Tryz.prog 73 #[.pointer (some ⟨g, 0, none⟩), .int .i64 i] w (WorkPostU w0 g v C t (C.shift i a s) gh gu gm w) := by
 have hia : i < C.acts.length := (List.getElem?_eq_some_iff.1 ha).1
 obtain ⟨hoff, hhA, hhl, hhc, hhf⟩ : ∃ off, t.h.A = some ⟨gh, off, none⟩ ∧ gh < w.heap.size ∧ (∀ j, j < s.holders.length → w.cell? ⟨gh, off + j, none⟩ = (ints s.holders)[j]?) ∧ (∀ j, w.frozen? ⟨gh, j, none⟩ = false) := by
  obtain ⟨off, h1, _, _, h2, h3, h4⟩ := h.holders.at0
  exact ⟨off, h1, h2, fun j hj => h3 j (by omega), h4⟩
 obtain ⟨uoff, huA, hul, huc, huf⟩ : ∃ off, t.u.A = some ⟨gu, off, none⟩ ∧ gu < w.heap.size ∧ (∀ j, j < s.used.length → w.cell? ⟨gu, off + j, none⟩ = (bools s.used)[j]?) ∧ (∀ j, w.frozen? ⟨gu, j, none⟩ = false) := by
  obtain ⟨off, h1, _, _, h2, h3, h4⟩ := h.used.at0
  exact ⟨off, h1, h2, fun j hj => h3 j (by omega), h4⟩
 obtain ⟨b, aoff, hA, hbl, hac⟩ := h.con.act ha
 obtain ⟨moff, hmA, _⟩ := h.marks.at0
 obtain ⟨⟨thA, thc⟩, ⟨tuA, tuc⟩, ⟨tmA, tmc⟩⟩ := t
 obtain ⟨vh, vu, ⟨vaA, vac⟩, ⟨vkA, vkc⟩, vo⟩ := v
 simp only at hhA huA hA hmA
 subst hhA huA hA hmA
 obtain ⟨ki, ro, gi, tg, un, ⟨ln, ld⟩⟩ := a
 simp only at hg0 hg1
 have k3 : w.cell? ⟨g, 3, none⟩ = some (.slice (some ⟨b, aoff, none⟩) C.acts.length vac) := h.cell 3
 have k8 : w.cell? ⟨g, 8, none⟩ = some (.slice (some ⟨gh, hoff, none⟩) s.holders.length thc) := h.cell 8
 have k9 : w.cell? ⟨g, 9, none⟩ = some (.slice (some ⟨gu, uoff, none⟩) s.used.length tuc) := h.cell 9
 have hac2 := hac w h.below
 obtain ⟨a0, a1, a2, a3, a4, a5, a6⟩ := rw7 hac2 rfl
 clear hac hac2
 have i0 : (0 : Int) ≤ (i : Int) := by omega
 have i1 : (i : Int) < (C.acts.length : Int) := by omega
 have i2 : (i : Int) < (s.used.length : Int) := by omega
 have hgl := lt_of_heap h.head
 have hbl2 : b < w.heap.size := Nat.lt_of_lt_of_le hbl h.below.size
 have H := Lib.hid h; clear h
 have HA := Lib.hid ha; clear ha
 have HL := Lib.hid hlen; clear hlen
 refine (callsIn_wide (n := 3)).1 ?_
 refine callsIn_of_wp_marks Tryz.func73 rfl trivial ?_ rfl
 simp only [Tryz.ntmps73, List.size_toArray, List.length_cons, List.length_nil, Nat.reduceAdd, Nat.reduceSub, Array.replicate_succ, Array.replicate_zero, List.push_toArray, List.append_toArray, List.nil_append, List.cons_append]
 have hx : gi.toNat < s.holders.length := by omega
 have y0 : w.cell? ⟨gh, hoff + gi.toNat, none⟩ = some (.int .i64 (holderAt s.holders gi)) := by rw [hhc _ hx]; simp [ints, holderAt, hx]
 have yf := hhf (hoff + gi.toNat)
 have z0 : w.cell? ⟨gu, uoff + i, none⟩ = some (.bool s.used[i]) := by rw [huc _ hiu]; simp [bools, hiu]
 have zf := huf (uoff + i)
 have hne1 := H.out.gh_ne
 have hne2 := H.out.gu_ne
 clear hhc hhf huc huf
 gi_wp2
 gi_region
 obtain ⟨W1, HW1⟩ : ∃ W1, Hid (W1 = (((w.setCell ⟨gh, hoff + gi.toNat, none⟩ (.int .i64 tg)).alloc (.cells #[.pointer (some ⟨g, 0, none⟩)] 82)).alloc (.cells #[.int .i64 ki, .int .i64 ro, .int .i64 gi, .int .i64 tg, .int .i64 un, .int .i64 ln, .int .i64 ld] 67)).drew) := ⟨_, rfl⟩
 rw [← HW1.out]
 have hW1 : WorkAt w0 W1 g ⟨vh, vu, ⟨some ⟨b, aoff, none⟩, vac⟩, ⟨vkA, vkc⟩, vo⟩ C ⟨⟨some ⟨gh, hoff, none⟩, thc⟩, ⟨some ⟨gu, uoff, none⟩, tuc⟩, ⟨some ⟨gm, moff, none⟩, tmc⟩⟩ ⟨s.day, s.holders.set gi.toNat tg, s.used, s.marks⟩ gh gu gm := by
  rw [HW1.out]
  exact (((H.out.holderSet hx tg).on (Below.alloc' (Below.refl _ _) _)).on (Below.alloc' (Below.refl _ _) _)).keep ((Upd.refl _ _).drew)
 have HU1 : Hid (Upd (Works g gh gu gm) w W1) := by
  show Upd _ _ _
  rw [HW1.out]
  exact ((((Upd.refl _ _).setCell (.inl (.inr (.inl rfl))) _).alloc _).alloc _).drew
 have hsz : W1.heap.size = w.heap.size + 2 := by rw [HW1.out]; simp [World.setCell]
 have hh0 : W1.heap[w.heap.size]? = some (.cells #[.pointer (some ⟨g, 0, none⟩)] 82 (0, 0)) := by
  rw [HW1.out]
  refine (Below.heap_alloc _ _ _ (by simp [World.setCell])).trans ?_
  have h := heap_alloc_new (w.setCell ⟨gh, hoff + gi.toNat, none⟩ (.int .i64 tg)) (.cells #[.pointer (some ⟨g, 0, none⟩)] 82)
  simpa [World.setCell] using h
 have hh1 : W1.heap[w.heap.size + 1]? = some (.cells #[.int .i64 ki, .int .i64 ro, .int .i64 gi, .int .i64 tg, .int .i64 un, .int .i64 ln, .int .i64 ld] 67 (0, 0)) := by
  rw [HW1.out]
  have h := heap_alloc_new ((w.setCell ⟨gh, hoff + gi.toNat, none⟩ (.int .i64 tg)).alloc (.cells #[.pointer (some ⟨g, 0, none⟩)] 82)) (.cells #[.int .i64 ki, .int .i64 ro, .int .i64 gi, .int .i64 tg, .int .i64 un, .int .i64 ln, .int .i64 ld] 67)
  rw [show ((w.setCell ⟨gh, hoff + gi.toNat, none⟩ (.int .i64 tg)).alloc (.cells #[.pointer (some ⟨g, 0, none⟩)] 82)).heap.size = w.heap.size + 1 by simp [World.setCell]] at h
  exact h
 have p0 : W1.cell? ⟨w.heap.size, 0, none⟩ = some (.pointer (some ⟨g, 0, none⟩)) := (cell_of_row W1 _ 0 _ _ _ hh0).trans rfl
 have q0 : W1.cell? ⟨w.heap.size + 1, 0, none⟩ = some (.int .i64 ki) := (cell_of_row W1 _ 0 _ _ _ hh1).trans rfl
 have q2 : W1.cell? ⟨w.heap.size + 1, 2, none⟩ = some (.int .i64 gi) := (cell_of_row W1 _ 2 _ _ _ hh1).trans rfl
 have q3 : W1.cell? ⟨w.heap.size + 1, 3, none⟩ = some (.int .i64 tg) := (cell_of_row W1 _ 3 _ _ _ hh1).trans rfl
 have k9' : W1.cell? ⟨g, 9, none⟩ = some (.slice (some ⟨gu, uoff, none⟩) s.used.length tuc) := hW1.cell 9
 obtain ⟨zc, zf'⟩ : W1.cell? ⟨gu, uoff + i, none⟩ = some (.bool s.used[i]) ∧ W1.frozen? ⟨gu, uoff + i, none⟩ = false := by
  obtain ⟨off, h1, _, _, h2, h3, h4⟩ := hW1.used.at0
  simp only [Option.some.injEq, Addr.mk.injEq, true_and, and_true] at h1
  subst h1
  refine ⟨?_, h4 _⟩
  rw [h3 _ (by simpa using hiu)]
  simp [bools, hiu]
 have hne3 : w.heap.size ≠ gu := by omega
 have hne4 : w.heap.size + 1 ≠ gu := by omega
 have HW2 := hW1.usedSet (i := i) hiu true
 have HH := Lib.hid HW2; clear HW2 hW1 hh0 hh1 k3 k8 k9 a0 a1 a2 a3 a4 a5 a6 y0 yf z0 zf
 cases q : (ki != 3) with
 | true =>
  gi_wp2
  refine ⟨_, results_none rfl _ _ _, rfl, ?_, HU1.out.setCell (.inl (.inr (.inr (.inl rfl)))) _⟩
  simp only [KCon.shift, q, cond_true]
  exact HH.out
 | false =>
  gi_wp2_with (refine ⟨trivial, ?_⟩; gi_at_call 68; refine (callsIn_wide.2 (runningSeq_any _ _)).mono ?_; rintro e z ⟨rfl, rfl⟩)
  obtain ⟨W2, HW2⟩ : ∃ W2, Hid (W2 = (W1.setCell ⟨gu, uoff + i, none⟩ (.bool true)).alloc (.cells #[.pointer (some ⟨g, 0, none⟩)] 82)) := ⟨_, rfl⟩
  rw [← HW2.out]
  have hW2 : WorkAt w0 W2 g ⟨vh, vu, ⟨some ⟨b, aoff, none⟩, vac⟩, ⟨vkA, vkc⟩, vo⟩ C ⟨⟨some ⟨gh, hoff, none⟩, thc⟩, ⟨some ⟨gu, uoff, none⟩, tuc⟩, ⟨some ⟨gm, moff, none⟩, tmc⟩⟩ ⟨s.day, s.holders.set gi.toNat tg, s.used.set i true, s.marks⟩ gh gu gm := by
   rw [HW2.out]
   exact HH.out.on (Below.alloc' (Below.refl _ _) _)
  have HU2 : Hid (Upd (Works g gh gu gm) w W2) := by
   show Upd _ _ _
   rw [HW2.out]
   exact (HU1.out.setCell (.inl (.inr (.inr (.inl rfl)))) _).alloc _
  have hs2 : W2.heap.size = w.heap.size + 3 := by rw [HW2.out]; simp [World.setCell, hsz]
  have hn0 := H.out.notNew (k := w.heap.size) (Nat.le_refl _)
  have hn1 := H.out.notNew (k := w.heap.size + 1) (by omega)
  have hn2 := H.out.notNew (k := w.heap.size + 2) (by omega)
  have hc2 : ∀ (p o : Nat) (u : Value), p ≠ gu → p < W1.heap.size → W1.cell? ⟨p, o, none⟩ = some u → W2.cell? ⟨p, o, none⟩ = some u := fun p o u h1 h2 h3 => by
   have hb : Below W1.heap.size (W1.setCell ⟨gu, uoff + i, none⟩ (.bool true)) W2 := by rw [HW2.out]; exact Below.mono (Below.alloc' (Below.refl _ _) _) (by simp [World.setCell])
   rw [hb.cell (p := ⟨p, o, none⟩) h2, World.cell?_setCell_other _ _ _ _ (fun e => h1 (by first | exact congrArg Addr.block e | exact (congrArg Addr.block e).symm))]
   exact h3
  have x0 := hc2 _ _ _ hne3 (by omega) p0
  have x2 := hc2 _ _ _ hne4 (by omega) q2
  have x3 := hc2 _ _ _ hne4 (by omega) q3
  have x4 : W2.cell? ⟨w.heap.size + 2, 0, none⟩ = some (.pointer (some ⟨g, 0, none⟩)) := by
   have h := heap_alloc_new (W1.setCell ⟨gu, uoff + i, none⟩ (.bool true)) (.cells #[.pointer (some ⟨g, 0, none⟩)] 82)
   rw [show (W1.setCell ⟨gu, uoff + i, none⟩ (.bool true)).heap.size = w.heap.size + 2 by simp [World.setCell, hsz], ← HW2.out] at h
   exact (cell_of_row W2 _ 0 _ _ _ h).trans rfl
  clear hc2
  refine wpIn_range_inv (α := Nat) rfl (by omega) (gf := 100) rfl trivial (enters_of Tryz.func100 (by kernel_rfl) rfl)
   (running_iter (Bw := w.heap.size + 2) (ms0 := s.marks) (shiftMark C gi tg) (fun i ms j h => shiftMark_other C gi tg i ms j h) (fun i ms => shiftMark_len C gi tg i ms) _ (by omega)
    (fun pre W => WorkAt w0 W g ⟨vh, vu, ⟨some ⟨b, aoff, none⟩, vac⟩, ⟨vkA, vkc⟩, vo⟩ C ⟨⟨some ⟨gh, hoff, none⟩, thc⟩, ⟨some ⟨gu, uoff, none⟩, tuc⟩, ⟨some ⟨gm, moff, none⟩, tmc⟩⟩ ⟨s.day, s.holders.set gi.toNat tg, s.used.set i true, pre.foldl (fun ms i => shiftMark C gi tg i ms) s.marks⟩ gh gu gm ∧ Upd (Works g gh gu gm) W2 W)
    (fun pre W h => ⟨h.1, (h.2.cell (by omega) hn2).trans x4⟩)) (fun _ => rfl) ?own ?start ?a1 ?assign ?body ?done
  case assign =>
   intro l x W K hK
   gi_wp2
   exact hK
  case own =>
   refine OwnFrom.and (WorkAt.ownFrom (fun pre : List Nat => (⟨s.day, s.holders.set gi.toNat tg, s.used.set i true, pre.foldl (fun ms i => shiftMark C gi tg i ms) s.marks⟩ : KState)) _ ?_) (Upd.ownFrom _ (Nat.le_refl _))
   exact hW2.below.size
  case start => exact ⟨hW2, Upd.refl _ _⟩
  case body =>
   as_aux_lemma =>
    intro l pre x W hI hOk
    obtain ⟨hW, hU⟩ := hI
    obtain ⟨hpre, m, hm, hrun⟩ := hOk
    have hxl : x < s.marks.length := (List.getElem?_eq_some_iff.1 hm).1
    have hxc : x < C.clauses.length := by rw [← HL.out]; exact hxl
    obtain ⟨k, hk⟩ : ∃ k, C.clauses[x]? = some k := ⟨C.clauses[x], List.getElem?_eq_getElem hxc⟩
    have hmx : (pre.foldl (fun ms i => shiftMark C gi tg i ms) s.marks)[x]? = some m := by
     rw [hpre, fold_other (shiftMark C gi tg) (fun i ms j h => shiftMark_other C gi tg i ms j h) x _ _ (runsTo_lt s.marks x)]
     exact hm
    generalize hM : pre.foldl (fun ms i => shiftMark C gi tg i ms) s.marks = M at hW hmx
    have y0 := (hU.cell (o := 0) (by omega) hn0).trans x0
    have y2 := (hU.cell (o := 2) (by omega) hn1).trans x2
    have y3 := (hU.cell (o := 3) (by omega) hn1).trans x3
    obtain ⟨kb, koff, st, hK, hkb, hkc, _⟩ := hW.con.clause hk
    simp only at hK
    subst hK
    have hkc2 := hkc _ hW.below
    obtain ⟨ki2, ro2, ac, ne, start, af, gr, bu, fi, pa, re, ⟨vn, vd⟩, un2, tg2, wa⟩ := k
    obtain ⟨stA, stc⟩ := st
    obtain ⟨c0, c1, c2, c3, c4, c5, c6, c7, c8, c9, c10, c11, c12, c13, c14, c15⟩ := rw16 hkc2 rfl
    clear hkc2 hkc
    obtain ⟨moff', hmA', hgl', hcell', hfz'⟩ := hW.markAt hmx
    simp only [Option.some.injEq, Addr.mk.injEq, true_and, and_true] at hmA'
    subst hmA'
    obtain ⟨m0, m1, m2, m3, m4⟩ := m
    have d3 : W.cell? ⟨gm, moff + x * 5 + 3, none⟩ = some (.int .i64 m3) := hcell' 3 (by omega)
    have f3 := hfz' (moff + x * 5 + 3)
    clear hcell' hfz'
    have k4 : W.cell? ⟨g, 4, none⟩ = some (.slice (some ⟨kb, koff, none⟩) C.clauses.length vkc) := hW.cell 4
    have k10 : W.cell? ⟨g, 10, none⟩ = some (.slice (some ⟨gm, moff, none⟩) M.length tmc) := hW.cell 10
    have hml : M.length = s.marks.length := by
     rw [← hM]
     exact foldl_len _ (fun i ms => shiftMark_len C gi tg i ms) _ _
    have HW := Lib.hid hW; clear hW
    have HU := Lib.hid hU; clear hU
    have HM := Lib.hid hM; clear hM
    have HK := Lib.hid hk; clear hk
    have HMX := Lib.hid hmx; clear hmx
    have HX : Hid (x < s.marks.length) := hxl
    clear hxl hm hrun hpre
    have x00 : (0 : Int) ≤ (x : Int) := by omega
    have x01 : (x : Int) < (C.clauses.length : Int) := by omega
    have x02 : (x : Int) < (M.length : Int) := by rw [hml, HL.out]; exact x01
    have hsW : W2.heap.size ≤ W.heap.size := HU.out.size
    have hgmW := lt_of_heap (HW.out.marks.block_type).choose_spec
    have hgW := lt_of_heap HW.out.head
    have hlW0 : w.heap.size < W.heap.size := by omega
    have hlW1 : w.heap.size + 1 < W.heap.size := by omega
    clear hml
    clear HW1 HU1 p0 q0 q2 q3 k9' zc zf' hne1 hne2 hne3 hne4 HH H HA x0 x2 x3 x4 hn0 hn1 hn2 hW2 HW2 HU2 hx hbl hbl2 hgl hhl hul hia hiu hg0 hg1 i0 i1 i2 hsz q hkb hgl' hxc
    have HF : Hid (shiftMark C gi tg x M = cond ((ki2 != 4) && (ro2 == gi)) (M.set x ⟨m0, m1, m2, tg, m4⟩) M) := by
     show _ = _
     simp only [shiftMark, HK.out, HMX.out]
    gi_wp2_with fail
    · as_aux_lemma =>
      rename_i hk4
      refine ⟨(KeepsOthers.alloc _ _).from _, ?_, HU.out.alloc _⟩
      rw [HM.out, HF.out, show ((ki2 != 4) && (ro2 == gi)) = false by simp [hk4]]
      exact HW.out.on (Below.alloc' (Below.refl _ _) _)
    · as_aux_lemma =>
      rename_i hk4 hkr
      refine wpIn_region_preN 8 (Lax.round _ _) (by simp) (by kernel_rfl) (by kernel_rfl) ?_
      simp only [List.take_succ_cons, List.take_zero, List.drop_succ_cons, List.drop_zero]
      repeat (go_big_quiet_step (fail))
      refine wpQuiet_nil ?_
      rintro _ ⟨mq, rfl⟩
      gi_wp2
      have hu : Upd (Works g gh gu gm) W (((W.alloc (.cells #[.int .i64 ki2, .int .i64 ro2, .int .i64 ac, .int .i64 ne, .slice stA start.length stc, .int .i64 af, .int .i64 gr, .bool bu, .bool fi, .int .i64 pa, .int .i64 re, .int .i64 vn, .int .i64 vd, .int .i64 un2, .int .i64 tg2, .bool wa] 90)).drewN mq).setCell ⟨gm, moff + x * 5 + 3, none⟩ (.int .i64 tg)) := (((Upd.refl _ _).alloc _).drewN _).setCell (.inl (.inr (.inr (.inr rfl)))) _
      refine ⟨(HW.out.keeps hu).from _, ?_, HU.out.trans hu (fun _ _ h => h)⟩
      rw [HM.out, HF.out, show ((ki2 != 4) && (ro2 == gi)) = true by simp [hkr.1, hkr.2]]
      exact ((HW.out.on (Below.alloc' (Below.refl _ _) _)).keep ((Upd.refl _ _).drewN mq)).markCell (m' := ⟨m0, m1, m2, tg, m4⟩) HMX.out (by omega) rfl
    · as_aux_lemma =>
      rename_i hk4 hkr
      refine ⟨(KeepsOthers.alloc _ _).from _, ?_, HU.out.alloc _⟩
      rw [HM.out, HF.out, show ((ki2 != 4) && (ro2 == gi)) = false by rcases hkr with h | h <;> simp [h]]
      exact HW.out.on (Below.alloc' (Below.refl _ _) _)
  case done =>
   rintro D xs W hD rfl ⟨hW, hU⟩ hK
   gi_wp2
   refine ⟨by simp, .inl ⟨_, _, rfl, run_takeDeferred hK, ?_⟩⟩
   have hgr := grownBy_putObj' W D (.deferred none)
   have hro : ∀ r, some D = some r → W2.heap.size ≤ r ∧ ∃ o, W.heap[r]? = some o ∧ o.isCells = false := fun r e => by
    injection e with e
    subst e
    exact ⟨hD, _, hK, rfl⟩
   refine ⟨_, results_none rfl _ _ _, rfl, ?_, HU2.out.trans (Upd.ownFrom (β := Unit) _ (Nat.le_refl _) () W _ _ hU hgr hro) (fun _ _ h => h)⟩
   have h8 := WorkAt.ownFrom (β := Unit) (fun _ => (⟨s.day, s.holders.set gi.toNat tg, s.used.set i true, (runsTo s.marks s.marks.length).foldl (fun ms i => shiftMark C gi tg i ms) s.marks⟩ : KState)) _ hW2.below.size () W _ _ hW hgr hro
   simp only [KCon.shift, q, cond_false]
   exact h8
end Go.Proofs.YtaielhafpmjkaaaGreatDoor
