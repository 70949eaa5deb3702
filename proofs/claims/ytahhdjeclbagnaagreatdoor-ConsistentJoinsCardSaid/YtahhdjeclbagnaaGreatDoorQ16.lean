/-
  Float; Make
-/
import Derived.Test.YtahhdjeclbagnaaGreatDoorQ14
namespace Go.Proofs.YtahhdjeclbagnaaGreatDoor
open Go.RowKit
section
variable {F : Fence} {n : Nat} {P : Program} {ops : Array Oper} {md : Region.Mode} {W0 : World} {Q : Exit → Act → World → Prop}
def quietUponB (P : Program) (w : World) (v : Value) : Result Next → Prop
 | .ok (.value u) w' => w' = w ∧ u = v
 | .ok .skip w' => w' = w ∧ v = undef
 | .ok (.enter f args) w' => w' = w ∧ Calls P f args w (fun e w'' => e = .returned v ∧ Below w.heap.size w w'')
 | _ => False
def quietB (P : Program) (o : Oper) (a : Act) (W0 : World) (next : Act → Prop) : Prop := ∃ v, (∀ z : Bl W0, quietUponB P z.val v ((execOp a.eval o).run P z.val)) ∧ next (a.put o.dst v)
def wpQuietB (P : Program) (ops : Array Oper) (W0 : World) (Q : Act → Prop) : List Oper → Act → Prop
 | [], a => Q a
 | o :: rest, a => if Region.wanted o (yielded ops a.tmps) then quietB P o a W0 (wpQuietB P ops W0 Q rest) else wpQuietB P ops W0 Q rest (a.put o.dst undef)
theorem wpQuietB_nil {Q : Act → Prop} {a : Act} (h : Q a) : wpQuietB P ops W0 Q [] a := h
theorem wpQuietB_step {Q : Act → Prop} {a : Act} {o : Oper} {rest : List Oper}
 (h : ∀ K : Act → Prop, (∀ a, wpQuietB P ops W0 Q rest a → K a) → if Region.wanted o (yielded ops a.tmps) then quietB P o a W0 K else K (a.put o.dst undef)) : wpQuietB P ops W0 Q (o :: rest) a :=
 h _ (fun _ h => h)
def qOpB (P : Program) (ops : Array Oper) (W0 : World) (i : Nat) (K : Act → Prop) (a : Act) : Prop :=
 match ops[i]? with
 | none => K a
 | some o => if Region.wanted o (yielded ops a.tmps) then quietB P o a W0 K else K (a.put o.dst undef)
theorem qOpB_mono {i : Nat} {a : Act} {K K' : Act → Prop} (h : ∀ a, K a → K' a) (hh : qOpB P ops W0 i K a) : qOpB P ops W0 i K' a := by
 unfold qOpB at *
 split
 · exact h _ (by simpa [*] using hh)
 · rename_i o ho
   simp only [ho] at hh
   split
   · rename_i hw
     simp only [hw, if_true] at hh
     obtain ⟨v, h1, h2⟩ := hh
     exact ⟨v, h1, h _ h2⟩
   · rename_i hw
     simp only [hw] at hh
     exact h _ hh
def YieldsB (P : Program) (ops : Array Oper) (W0 : World) (o : Oper) (v : Value) (a : Act) : Prop :=
 (Region.wanted o (yielded ops a.tmps) = true ∧ ∀ z : Bl W0, quietUponB P z.val v ((execOp a.eval o).run P z.val)) ∨ (Region.wanted o (yielded ops a.tmps) = false ∧ v = undef)
theorem YieldsB.qOpB {i : Nat} {o : Oper} {v : Value} {a : Act} (hi : ops[i]? = some o) (hy : YieldsB P ops W0 o v a) {K : Act → Prop} (h : K (a.put o.dst v)) : qOpB P ops W0 i K a := by
 unfold Go.Proofs.YtahhdjeclbagnaaGreatDoor.qOpB
 simp only [hi]
 rcases hy with ⟨hw, hv⟩ | ⟨hw, rfl⟩
 · simp only [hw, if_true]
   exact ⟨v, hv, h⟩
 · simp only [hw, Bool.false_eq_true, if_false]
   exact h
theorem YieldsB.of_same {o : Oper} {v : Value} {a a' : Act} (hy : YieldsB P ops W0 o v a) (he : execOp a'.eval o = execOp a.eval o) (hw : Region.wanted o (yielded ops a'.tmps) = Region.wanted o (yielded ops a.tmps)) : YieldsB P ops W0 o v a' := by
 unfold YieldsB at *
 rw [he, hw]
 exact hy
theorem yieldsB_of_qOpB {i : Nat} {o : Oper} {a : Act} {K : Act → Prop} (hi : ops[i]? = some o) (h : qOpB P ops W0 i K a) : ∃ v, YieldsB P ops W0 o v a ∧ K (a.put o.dst v) := by
 unfold qOpB at h
 simp only [hi] at h
 by_cases hw : Region.wanted o (yielded ops a.tmps) = true
 · simp only [hw, if_true] at h
   obtain ⟨v, h1, h2⟩ := h
   exact ⟨v, .inl ⟨hw, h1⟩, h2⟩
 · simp only [hw] at h
   exact ⟨undef, .inr ⟨by simpa using hw, rfl⟩, h⟩
theorem qOpB_put {j : Nat} {oi oj : Oper} {v : Value} (hj : ops[j]? = some oj) (hap : oi.apart ops oj = true) (hsi : ∀ cs b, oi.op ≠ .select cs b) (hsj : ∀ cs b, oj.op ≠ .select cs b) {K : Act → Prop} {a : Act}
 (hy : YieldsB P ops W0 oi v a) (h : qOpB P ops W0 j K (a.put oi.dst v)) : qOpB P ops W0 j (fun a' => YieldsB P ops W0 oi v a' ∧ K (a'.put oi.dst v)) a := by
 obtain ⟨h1, h2, h3⟩ := Oper.apart_spec hap
 obtain ⟨u, hu, hK⟩ := yieldsB_of_qOpB hj h
 have hu' : YieldsB P ops W0 oj u a := hu.of_same (execOp_put oj hsj a oi.dst v h1).symm (wanted_put oj a oi.dst v h1).symm
 refine hu'.qOpB hj ⟨hy.of_same (execOp_put oi hsi a oj.dst u h3) (wanted_put oi a oj.dst u h3), ?_⟩
 rw [← Act.put_comm a v u h2]
 exact hK
def anyB (P : Program) (md : Region.Mode) (ops : Array Oper) (W0 : World) (S : Nat → Array Bool → Act → Prop) (k : Nat) : Nat → Array Bool → Act → Prop
 | 0, listed, a => upToB k listed = true ∧ S 0 listed a
 | fuel + 1, listed, a =>
  (upToB k listed = true → S (fuel + 1) listed a) ∧
  (upToB k listed = false → Region.ready md ops listed ≠ [] ∧ ∀ i ∈ Region.ready md ops listed, qOpB P ops W0 i (anyB P md ops W0 S k fuel (listed.setIfInBounds i true)) a)
theorem ready_unlisted {i : Nat} {listed : Array Bool} (hr : i ∈ Region.ready md ops listed) : listed.getD i false = false := by
 have h0 := (mem_ready.1 hr).1
 rcases Nat.lt_or_ge i listed.size with h' | h'
 · simp [h'] at h0 ⊢
   exact h0
 · simp [Array.getElem?_eq_none h']
theorem upToB_ready {k i : Nat} {listed : Array Bool} (hik : i < k) (hr : i ∈ Region.ready md ops listed) : upToB k listed = false := by
 cases hu : upToB k listed with
 | false => rfl
 | true =>
  have h1 := upToB_spec.1 hu i hik
  rw [ready_unlisted hr] at h1
  cases h1
theorem upToB_side {k i j : Nat} {listed : Array Bool} (hn : needB md ops k = true) (hik : i < k) (hd : Down md ops listed) (hr : listed.getD i false = false) (hj : j ∈ Region.ready md ops listed) (hji : j ≠ i) : j < k ∧ upToB k (listed.setIfInBounds i true) = false := by
 have hjk : j < k := by
  rcases Nat.lt_or_ge j k with h1 | h1
  · exact h1
  · have h2 := needB_spec hn hd hj h1 i hik
    rw [hr] at h2
    cases h2
 exact ⟨hjk, upToB_ready hjk (ready_mono hj hji)⟩
theorem anyB_first {S : Nat → Array Bool → Act → Prop} {k i : Nat} {oi : Oper} {v : Value} (hn : needB md ops k = true) (hik : i < k) (hi : ops[i]? = some oi) (hsel : ∀ (j : Nat) (o : Oper) cs b, ops[j]? = some o → o.op ≠ .select cs b) :
 ∀ (fuel : Nat) (listed : Array Bool) (a : Act), Down md ops listed →
  (∀ j oj, ops[j]? = some oj → j ≠ i → listed.getD j true = false → (∀ e ∈ oj.after, Region.binds md e = true → e.on ≠ i) → oi.apart ops oj = true) →
  i ∈ Region.ready md ops listed → YieldsB P ops W0 oi v a →
  anyB P md ops W0 S k fuel (listed.setIfInBounds i true) (a.put oi.dst v) → anyB P md ops W0 S k (fuel + 1) listed a := by
 intro fuel
 induction fuel with
 | zero =>
  intro listed a hd _ hr hy H
  refine ⟨fun hu => (by rw [upToB_ready hik hr] at hu; cases hu), fun _ => ⟨fun e => (by rw [e] at hr; cases hr), fun j hj => ?_⟩⟩
  by_cases hji : j = i
  · subst hji; exact hy.qOpB hi H
  · have h1 := (upToB_side hn hik hd (ready_unlisted hr) hj hji).2
    rw [H.1] at h1
    cases h1
 | succ fuel ih =>
  intro listed a hd hfree hr hy H
  refine ⟨fun hu => (by rw [upToB_ready hik hr] at hu; cases hu), fun _ => ⟨fun e => (by rw [e] at hr; cases hr), fun j hj => ?_⟩⟩
  by_cases hji : j = i
  · subst hji; exact hy.qOpB hi H
  · have h1 := (H.2 (upToB_side hn hik hd (ready_unlisted hr) hj hji).2).2 j (ready_mono hj hji)
    obtain ⟨hjun, oj, hoj, hall⟩ := mem_ready.1 hj
    have hnot : ∀ e ∈ oj.after, Region.binds md e = true → e.on ≠ i := fun e he hb heq => by
     have h2 := hall e he hb
     rw [heq, ready_unlisted hr] at h2
     cases h2
    have h2 := qOpB_put hoj (hfree j oj hoj hji hjun hnot) (fun cs b => hsel i oi cs b hi) (fun cs b => hsel j oj cs b hoj) hy h1
    have hfree' : ∀ k ok, ops[k]? = some ok → k ≠ i → (listed.setIfInBounds j true).getD k true = false →
     (∀ e ∈ ok.after, Region.binds md e = true → e.on ≠ i) → oi.apart ops ok = true := fun k ok hk hki hun hno => by
     refine hfree k ok hk hki ?_ hno
     by_cases hjk : j = k
     · subst hjk; exact hjun
     · rw [getD_set_ne true hjk] at hun; exact hun
    refine qOpB_mono (fun a' h3 => ih (listed.setIfInBounds j true) a' (hd.set hj) hfree' (ready_mono hr (Ne.symm hji)) h3.1 ?_) h2
    rw [Array.setIfInBounds_comm _ _ hji]
    exact h3.2
def preIs (md : Region.Mode) (ops : Array Oper) (k : Nat) : List Nat → Array Bool → Bool
 | [], listed => upToB k listed && preFrom.oneFrom md ops (ops.size - k) k listed
 | i :: is, listed => decide (i < k) && (Region.ready md ops listed).contains i && Region.free md ops listed i && preIs md ops k is (listed.setIfInBounds i true)
theorem anyB_lex {S : Nat → Array Bool → Act → Prop} {S0 : Act → Prop} {k m : Nat} (hs : Region.noSelect ops = true) (hn : needB md ops k = true)
 (hS : ∀ listed a, upToB k listed = true → preFrom.oneFrom md ops (ops.size - k) k listed = true → S0 a → S m listed a) (is : List Nat) : ∀ (l : List Oper) (listed : Array Bool) (a : Act), is.map (fun i => ops[i]?) = l.map some → Down md ops listed →
 preIs md ops k is listed = true → wpQuietB P ops W0 S0 l a → anyB P md ops W0 S k (is.length + m) listed a := by
 induction is with
 | nil =>
  intro l listed a hl _ hB h
  obtain rfl : l = [] := by
   cases l with
   | nil => rfl
   | cons x l => simp at hl
  simp only [preIs, Bool.and_eq_true] at hB
  have h1 := hS listed a hB.1 hB.2 h
  rw [List.length_nil, Nat.zero_add]
  cases m with
  | zero => exact ⟨hB.1, h1⟩
  | succ m => exact ⟨fun _ => h1, fun e => (by rw [hB.1] at e; cases e)⟩
 | cons i is ih =>
  intro l listed a hl hd hB h
  cases l with
  | nil => simp at hl
  | cons o l =>
   simp only [List.map_cons, List.cons.injEq] at hl
   obtain ⟨h0, hl⟩ := hl
   simp only [preIs, Bool.and_eq_true, decide_eq_true_eq] at hB
   obtain ⟨⟨⟨hik, hr⟩, hf⟩, hB'⟩ := hB
   have hr' : i ∈ Region.ready md ops listed := by simpa using hr
   have hst : qOpB P ops W0 i (wpQuietB P ops W0 S0 l) a := by unfold qOpB; simp only [h0]; exact h
   obtain ⟨v, hy, hK⟩ := yieldsB_of_qOpB h0 hst
   have ih' := ih l (listed.setIfInBounds i true) (a.put o.dst v) hl (hd.set hr') hB' hK
   have h9 := anyB_first (S := S) hn hik h0 (Region.noSelect_spec hs) _ listed a hd (Region.free_spec h0 hf) hr' hy ih'
   have e : (i :: is).length + m = is.length + m + 1 := by simp; omega
   rw [e]
   exact h9
theorem wpOpIn_of_quietB {i : Nat} {a a2 : Act} {K : Act → Prop} {K' : Act → World → Prop} (hF : Lax F P) (hd : ∀ o, ops[i]? = some o → notDefer o = true) (z : Bl W0)
 (hsame : ∀ o, ops[i]? = some o → execOp a2.eval o = execOp a.eval o ∧ Region.wanted o (yielded ops a2.tmps) = Region.wanted o (yielded ops a.tmps))
 (h : ∀ o v, ops[i]? = some o → ∀ z' : Bl W0, Below z.val.heap.size z.val z'.val → K (a.put o.dst v) → K' (a2.put o.dst v) z'.val) (hi : i < ops.size) (hh : qOpB P ops W0 i K a) : wpOpIn F n P ops Q i K' a2 z.val := by
 have ho : ops[i]? = some ops[i] := Array.getElem?_eq_getElem hi
 obtain ⟨v, hy, hK⟩ := yieldsB_of_qOpB ho hh
 obtain ⟨e1, e2⟩ := hsame _ ho
 unfold wpOpIn
 simp only [ho]
 rcases hy with ⟨hw, hv⟩ | ⟨hw, rfl⟩
 · rw [e2, hw, if_pos rfl]
   refine ⟨fun f _ => hF.fn f, ?_⟩
   rw [Oper.semAt_plain F _ _ (notDefer_spec (hd _ ho)), e1]
   have h3 := hv z
   generalize (execOp a.eval ops[i]).run P z.val = r at *
   cases r with
   | ok x w' =>
    cases x <;> simp only [quietUponB] at h3
    case value u =>
     obtain ⟨e1, e2⟩ := h3
     subst e1 e2
     exact h _ _ ho z (Below.refl _ _) hK
    case skip =>
     obtain ⟨e1, e2⟩ := h3
     subst e1 e2
     exact h _ _ ho z (Below.refl _ _) hK
    case enter f args =>
     obtain ⟨e1, hc⟩ := h3
     subst e1
     refine ⟨fun e => (by rw [hF.depth] at e; cases e), (hF.calls _ _ _ _ _ hc).mono ?_⟩
     rintro e w'' ⟨rfl, hw''⟩
     exact h _ _ ho ⟨w'', Below.step z.prop hw''⟩ hw'' hK
   | halt x w' => simp only [quietUponB] at h3
 · rw [e2, hw, if_neg (by simp)]
   exact ⟨fun f _ => hF.fn f, h _ _ ho z (Below.refl _ _) hK⟩
def floatB (md : Region.Mode) (ops : Array Oper) (k f : Nat) : Bool :=
 decide (f < k) && match ops[f]? with
  | some o => (match o.op with | .alloc _ => true | _ => false) && o.guard.isNone && (o.after.all fun e => !Region.binds md e) && (List.range k).all fun j => j == f || (match ops[j]? with | some oj => o.apart ops oj && notDefer oj | none => false)
  | none => false
def restF (F : Fence) (n : Nat) (P : Program) (md : Region.Mode) (ops : Array Oper) (W0 : World) (Q : Exit → Act → World → Prop) (d : Option Tmp) (obj : Obj) (fuel : Nat) (listed : Array Bool) (a : Act) : Prop :=
 ∀ (b : Nat) (z : Bl W0), W0.heap.size ≤ b → z.val.heap[b]? = some obj → wpAnyIn F n P md ops Q fuel listed (a.put d (.pointer (some ⟨b, 0, none⟩))) z.val
theorem wpAnyIn_of_laid {k f : Nat} {of : Oper} {obj : Obj} (hF : Lax F P) (hs : Region.noSelect ops = true) (hn : needB md ops k = true) (hf : floatB md ops k f = true) (hof : ops[f]? = some of) :
 ∀ (fuel : Nat) (listed : Array Bool) (a : Act) (z : Bl W0) (b : Nat), Down md ops listed → listed.getD f false = true → W0.heap.size ≤ b → z.val.heap[b]? = some obj →
 anyB P md ops W0 (restF F n P md ops W0 Q of.dst obj) k fuel listed a → wpAnyIn F n P md ops Q fuel listed (a.put of.dst (.pointer (some ⟨b, 0, none⟩))) z.val
 | 0, _, _, z, b, _, _, hb, hz, h => h.2 b z hb hz
 | fuel + 1, listed, a, z, b, hd, hlf, hb, hz, h => by
  cases hu : upToB k listed with
  | true => exact h.1 hu b z hb hz
  | false =>
   obtain ⟨hne, hall⟩ := h.2 hu
   refine ⟨fun e => absurd e hne, fun i hi => ?_⟩
   have hik : i < k := by
    rcases Nat.lt_or_ge i k with h1 | h1
    · exact h1
    · rw [upToB_spec.2 (needB_spec hn hd hi h1)] at hu
      cases hu
   have hif : i ≠ f := fun e => by
    subst e
    rw [ready_unlisted hi] at hlf
    cases hlf
   have hsz : i < ops.size := by
    obtain ⟨_, o, ho, _⟩ := mem_ready.1 hi
    exact (Array.getElem?_eq_some_iff.1 ho).1
   simp only [floatB, hof, Bool.and_eq_true, List.all_eq_true, List.mem_range, Bool.or_eq_true, beq_iff_eq] at hf
   have hap : ∀ o, ops[i]? = some o → of.apart ops o = true ∧ notDefer o = true := fun o ho => by
    rcases hf.2.2 i hik with h1 | h1
    · exact absurd h1 hif
    · rw [ho] at h1
      simpa using h1
   refine wpOpIn_of_quietB (a := a) hF (fun o ho => (hap o ho).2) z (fun o ho => ?_) (fun o v ho z' hz' hK => ?_) hsz (hall i hi)
   · obtain ⟨h1, h2, h3⟩ := Oper.apart_spec (hap o ho).1
     exact ⟨execOp_put o (fun cs b => Region.noSelect_spec hs i o cs b ho) a of.dst _ h1, wanted_put o a of.dst _ h1⟩
   · obtain ⟨h1, h2, h3⟩ := Oper.apart_spec (hap o ho).1
     rw [Act.put_comm a _ v h2]
     refine wpAnyIn_of_laid hF hs hn (by simp only [floatB, hof, Bool.and_eq_true, List.all_eq_true, List.mem_range, Bool.or_eq_true, beq_iff_eq]; exact hf) hof fuel _ _ z' b (hd.set hi) ?_ hb ?_ hK
     · rw [getD_set_ne false hif]
       exact hlf
     · exact (hz'.block b (lt_of_heap hz)).trans hz
theorem wpAnyIn_of_float {k f : Nat} {of : Oper} {obj : Obj} (hF : Lax F P) (hs : Region.noSelect ops = true) (hn : needB md ops k = true) (hf : floatB md ops k f = true) (hof : ops[f]? = some of)
 (hrun : ∀ (a : Act) (w : World), (execOp a.eval of).run P w = .ok (.value (.pointer (some ⟨w.heap.size, 0, none⟩))) (w.alloc obj)) :
 ∀ (fuel : Nat) (listed : Array Bool) (a : Act) (z : Bl W0), Down md ops listed → listed.getD f true = false → f < listed.size →
 anyB P md ops W0 (restF F n P md ops W0 Q of.dst obj) k fuel (listed.setIfInBounds f true) a → wpAnyIn F n P md ops Q (fuel + 1) listed a z.val := by
 have hf0 := hf
 simp only [floatB, hof, Bool.and_eq_true, List.all_eq_true, List.mem_range, Bool.or_eq_true, beq_iff_eq, decide_eq_true_eq] at hf0
 obtain ⟨hfk, ⟨⟨hop, hg⟩, haf⟩, hap⟩ := hf0
 have hready : ∀ listed : Array Bool, listed.getD f true = false → f ∈ Region.ready md ops listed := fun listed h => mem_ready.2 ⟨h, of, hof, fun e he hb => by
  have h1 := Array.all_eq_true_iff_forall_mem.1 haf e he
  simp [hb] at h1⟩
 intro fuel
 induction fuel with
 | zero =>
  intro listed a z hd hlf hsz h
  refine ⟨fun e => (by have h1 := hready listed hlf; rw [e] at h1; cases h1), fun i hi => ?_⟩
  by_cases hif : i = f
  · subst hif
    unfold wpOpIn
    simp only [hof]
    rw [show Region.wanted of (yielded ops a.tmps) = true by simp only [Region.wanted, Option.isNone_iff_eq_none.1 hg], if_pos rfl]
    refine ⟨fun f _ => hF.fn f, ?_⟩
    rw [Oper.semAt_plain F _ _ (fun c e => by rw [e] at hop; cases hop), hrun]
    exact wpAnyIn_of_laid hF hs hn hf hof 0 _ _ ⟨_, Below.step z.prop (Below.alloc' (Below.refl _ _) _)⟩ _ (hd.set hi) (by simp [hsz]) z.prop.size (heap_alloc_new _ _) h
  · have h1 := (upToB_side hn hfk hd (ready_unlisted (hready listed hlf)) hi hif).2
    rw [h.1] at h1
    cases h1
 | succ fuel ih =>
  intro listed a z hd hlf hsz h
  refine ⟨fun e => (by have h1 := hready listed hlf; rw [e] at h1; cases h1), fun i hi => ?_⟩
  by_cases hif : i = f
  · subst hif
    unfold wpOpIn
    simp only [hof]
    rw [show Region.wanted of (yielded ops a.tmps) = true by simp only [Region.wanted, Option.isNone_iff_eq_none.1 hg], if_pos rfl]
    refine ⟨fun f _ => hF.fn f, ?_⟩
    rw [Oper.semAt_plain F _ _ (fun c e => by rw [e] at hop; cases hop), hrun]
    exact wpAnyIn_of_laid hF hs hn hf hof _ _ _ ⟨_, Below.step z.prop (Below.alloc' (Below.refl _ _) _)⟩ _ (hd.set hi) (by simp [hsz]) z.prop.size (heap_alloc_new _ _) h
  · obtain ⟨hik, hu⟩ := upToB_side hn hfk hd (ready_unlisted (hready listed hlf)) hi hif
    have h1 := (h.2 hu).2 i (ready_mono hi hif)
    have hsi : i < ops.size := by
     obtain ⟨_, o, ho, _⟩ := mem_ready.1 hi
     exact (Array.getElem?_eq_some_iff.1 ho).1
    refine wpOpIn_of_quietB (a := a) hF (fun o ho => ?_) z (fun o ho => ⟨rfl, rfl⟩) (fun o v ho z' hz' hK => ?_) hsi h1
    · rcases hap i hik with h2 | h2
      · exact absurd h2 hif
      · rw [ho] at h2
        exact (by simpa using h2 : _ ∧ _).2
    · refine ih _ _ z' (hd.set hi) (by rw [getD_set_ne true hif]; exact hlf) (by simpa using hsz) ?_
      rw [Array.setIfInBounds_comm _ _ hif]
      exact hK
def indicesBut (k f : Nat) : List Nat := (List.range k).filter (· != f)
def floatPreB (ops : Array Oper) (k f : Nat) : Bool := Region.noSelect ops && needB .any ops k && floatB .any ops k f && preIs .any ops k (indicesBut k f) ((Array.replicate ops.size false).setIfInBounds f true)
theorem wpIn_region_float {id : Nat} {a : Act} {s : Bl W0} {l : List Oper} (k f : Nat) (of : Oper) (obj : Obj) (hF : Lax F P) (hk : k ≤ l.length) (hm : P.follows .mixedOrders = true) (hB : floatPreB l.toArray k f = true) (hof : l[f]? = some of) (hl : (indicesBut k f).map (fun i => l[i]?) = ((l.take k).eraseIdx f).map some)
 (hrun : ∀ (a : Act) (w : World), (execOp a.eval of).run P w = .ok (.value (.pointer (some ⟨w.heap.size, 0, none⟩))) (w.alloc obj))
 (h : wpQuietB P l.toArray W0 (fun a' => ∀ (b : Nat) (z : Bl W0), W0.heap.size ≤ b → z.val.heap[b]? = some obj → wpListIn F n P l.toArray Q (l.drop k) (a'.put of.dst (.pointer (some ⟨b, 0, none⟩))) z.val) ((l.take k).eraseIdx f) a) :
 (Code.region id l.toArray true).wpIn F n P Q a s.val := by
 simp only [floatPreB, Bool.and_eq_true] at hB
 obtain ⟨⟨⟨hs, hn⟩, hfl⟩, hp⟩ := hB
 have hfk : f < k := by
  simp only [floatB, Bool.and_eq_true, decide_eq_true_eq] at hfl
  exact hfl.1
 have hof' : l.toArray[f]? = some of := by simpa using hof
 have hdown : Down .any l.toArray (Array.replicate l.toArray.size false) := fun j hj => by
  exfalso
  rcases Nat.lt_or_ge j l.length with h' | h'
  · simp [h'] at hj
  · simp [h'] at hj
 have hrd : f ∈ Region.ready .any l.toArray (Array.replicate l.toArray.size false) := mem_ready.2 ⟨by simp [show f < l.length by omega], of, hof', fun e he hb => by
  simp only [floatB, hof', Bool.and_eq_true] at hfl
  have h1 := Array.all_eq_true_iff_forall_mem.1 hfl.2.1.2 e he
  simp [hb] at h1⟩
 have hlen : (indicesBut k f).length + 1 = k := by
  have h1 := congrArg List.length hl
  rw [List.length_map, List.length_map, List.length_eraseIdx, List.length_take, if_pos (by omega)] at h1
  omega
 refine wpIn_region_any hm ?_
 have h1 := anyB_lex (md := .any) (ops := l.toArray) (P := P) (W0 := W0) (S := restF F n P .any l.toArray W0 Q of.dst obj) (k := k) (m := l.toArray.size - k) hs hn (S0 := fun a' => ∀ (b : Nat) (z : Bl W0), W0.heap.size ≤ b → z.val.heap[b]? = some obj → wpListIn F n P l.toArray Q (l.drop k) (a'.put of.dst (.pointer (some ⟨b, 0, none⟩))) z.val)
  (fun listed a' hu ho h0 b z hb hz => by
   have h2 := wpAnyIn_one (F := F) (n := n) (P := P) (ops := l.toArray) (Q := Q) (md := .any) (l.drop k) k listed (a'.put of.dst (.pointer (some ⟨b, 0, none⟩))) z.val (fun j => by simp) (by simpa using ho) (h0 b z hb hz)
   simpa using h2)
  (indicesBut k f) ((l.take k).eraseIdx f) ((Array.replicate l.toArray.size false).setIfInBounds f true) a (by simpa using hl) (hdown.set hrd) hp h
 have h2 := wpAnyIn_of_float (F := F) (n := n) (Q := Q) hF hs hn hfl hof' hrun _ _ a ⟨s.val.drew, s.prop.drew⟩ hdown (by simp [show f < l.length by omega]) (by simp; omega) h1
 rw [show (indicesBut k f).length + (l.toArray.size - k) + 1 = l.toArray.size by simp; omega] at h2
 exact h2
end
end Go.Proofs.YtahhdjeclbagnaaGreatDoor
namespace Go.Proofs.YtahhdjeclbagnaaGreatDoor
open Go.RowKit
structure MSpec where
 V : Value → Prop
 S : Value → World → Prop
def MSpec.Keeps (sp : MSpec) : Prop := ∀ v z z', sp.S v z → Below z.heap.size z z' → sp.S v z'
section
variable {F : Fence} {n : Nat} {P : Program} {ops : Array Oper} {md : Region.Mode} {W0 : World} {Q : Exit → Act → World → Prop} {mk : Nat → Option MSpec}
def makesUpon (P : Program) (w : World) (sp : MSpec) : Result Next → Prop
 | .ok (.value u) w' => sp.V u ∧ sp.S u w' ∧ Below w.heap.size w w'
 | .ok (.enter f args) w' => w' = w ∧ Calls P f args w (fun e w'' => ∃ v, e = .returned v ∧ sp.V v ∧ sp.S v w'' ∧ Below w.heap.size w w'')
 | _ => False
def stillUpon (w : World) (v : Value) : Result Next → Prop
 | .ok (.value u) w' => w' = w ∧ u = v
 | .ok .skip w' => w' = w ∧ v = undef
 | _ => False
def stillB (P : Program) (o : Oper) (a : Act) (W0 : World) (next : Act → Prop) : Prop := ∃ v, (∀ z : Bl W0, stillUpon z.val v ((execOp a.eval o).run P z.val)) ∧ next (a.put o.dst v)
def one (u : Value) : MSpec := ⟨fun v => v = u, fun _ _ => True⟩
theorem one_inj {u v : Value} (h : one u = one v) : u = v := by
 have h1 := congrArg (fun sp : MSpec => sp.V v) h
 simp only [one, eq_iff_iff, iff_true] at h1
 exact h1.symm
def Gives (P : Program) (ops : Array Oper) (W0 : World) (mk : Nat → Option MSpec) (i : Nat) (o : Oper) (sp : MSpec) (a : Act) : Prop :=
 (Region.wanted o (yielded ops a.tmps) = true ∧ mk i = some sp ∧ ∀ z : Bl W0, makesUpon P z.val sp ((execOp a.eval o).run P z.val)) ∨
 (Region.wanted o (yielded ops a.tmps) = true ∧ mk i = none ∧ ∃ u, sp = one u ∧ ∀ z : Bl W0, stillUpon z.val u ((execOp a.eval o).run P z.val)) ∨
 (Region.wanted o (yielded ops a.tmps) = false ∧ sp = one undef)
theorem stillUpon_unique {w : World} {u v : Value} {r : Result Next} (h : stillUpon w u r) (h' : stillUpon w v r) : u = v := by
 cases r with
 | ok x w' =>
  cases x <;> simp only [stillUpon] at h h'
  · exact h.2.symm.trans h'.2
  · exact h.2.trans h'.2.symm
 | halt x w' => simp only [stillUpon] at h
theorem Gives.unique {i : Nat} {o : Oper} {sp sp' : MSpec} {a : Act} (h : Gives P ops W0 mk i o sp a) (h' : Gives P ops W0 mk i o sp' a) : sp = sp' := by
 rcases h with ⟨h1, h2, _⟩ | ⟨h1, h2, u, rfl, h4⟩ | ⟨h1, rfl⟩
 · rcases h' with ⟨_, h3, _⟩ | ⟨_, h3, _⟩ | ⟨h3, _⟩
   · rw [h2] at h3; injection h3
   · rw [h2] at h3; cases h3
   · rw [h1] at h3; cases h3
 · rcases h' with ⟨_, h3, _⟩ | ⟨_, h3, v, rfl, h5⟩ | ⟨h3, _⟩
   · rw [h2] at h3; cases h3
   · rw [stillUpon_unique (h4 default) (h5 default)]
   · rw [h1] at h3; cases h3
 · rcases h' with ⟨h3, _⟩ | ⟨h3, _⟩ | ⟨_, h4⟩
   · rw [h1] at h3; cases h3
   · rw [h1] at h3; cases h3
   · exact h4.symm
theorem Gives.ex {i : Nat} {o : Oper} {sp : MSpec} {a : Act} (h : Gives P ops W0 mk i o sp a) : ∃ v, sp.V v := by
 rcases h with ⟨_, _, h3⟩ | ⟨_, _, u, rfl, _⟩ | ⟨_, rfl⟩
 · have h4 := h3 default
   generalize (execOp a.eval o).run P _ = r at h4
   cases r with
   | ok x w' =>
    cases x <;> simp only [makesUpon] at h4
    · exact ⟨_, h4.1⟩
    · obtain ⟨e, w'', fr, ⟨v, _, hv, _⟩, _⟩ := h4.2 []
      exact ⟨v, hv⟩
   | halt x w' => simp only [makesUpon] at h4
 · exact ⟨u, rfl⟩
 · exact ⟨undef, rfl⟩
theorem Gives.of_same {i : Nat} {o : Oper} {sp : MSpec} {a a' : Act} (hy : Gives P ops W0 mk i o sp a) (he : execOp a'.eval o = execOp a.eval o) (hw : Region.wanted o (yielded ops a'.tmps) = Region.wanted o (yielded ops a.tmps)) : Gives P ops W0 mk i o sp a' := by
 unfold Gives at *
 rw [he, hw]
 exact hy
def gOp (P : Program) (ops : Array Oper) (W0 : World) (mk : Nat → Option MSpec) (i : Nat) (K : Act → (World → Prop) → Prop) (a : Act) (Φ : World → Prop) : Prop :=
 match ops[i]? with
 | none => K a Φ
 | some o => ∃ sp, Gives P ops W0 mk i o sp a ∧ ∀ v, sp.V v → K (a.put o.dst v) (fun z => Φ z ∧ sp.S v z)
theorem gOp_mono {i : Nat} {a : Act} {Φ : World → Prop} {K K' : Act → (World → Prop) → Prop} (h : ∀ a Φ, K a Φ → K' a Φ) (hh : gOp P ops W0 mk i K a Φ) : gOp P ops W0 mk i K' a Φ := by
 unfold gOp at *
 split
 · exact h _ _ (by simpa [*] using hh)
 · rename_i o ho
   simp only [ho] at hh
   obtain ⟨sp, h1, h2⟩ := hh
   exact ⟨sp, h1, fun v hv => h _ _ (h2 v hv)⟩
theorem Gives.gOp {i : Nat} {o : Oper} {sp : MSpec} {a : Act} {Φ : World → Prop} (hi : ops[i]? = some o) (hy : Gives P ops W0 mk i o sp a) {K : Act → (World → Prop) → Prop} (h : ∀ v, sp.V v → K (a.put o.dst v) (fun z => Φ z ∧ sp.S v z)) : gOp P ops W0 mk i K a Φ := by
 unfold Go.Proofs.YtahhdjeclbagnaaGreatDoor.gOp
 simp only [hi]
 exact ⟨sp, hy, h⟩
theorem gOp_put {i j : Nat} {oi oj : Oper} {sp : MSpec} (hj : ops[j]? = some oj) (hap : oi.apart ops oj = true) (hsi : ∀ cs b, oi.op ≠ .select cs b) (hsj : ∀ cs b, oj.op ≠ .select cs b) {K : Act → (World → Prop) → Prop} {a : Act} {Φ : World → Prop}
 (hy : Gives P ops W0 mk i oi sp a) (h : ∀ v, sp.V v → gOp P ops W0 mk j K (a.put oi.dst v) (fun z => Φ z ∧ sp.S v z)) :
 gOp P ops W0 mk j (fun a' Φ' => Gives P ops W0 mk i oi sp a' ∧ ∀ v, sp.V v → K (a'.put oi.dst v) (fun z => Φ' z ∧ sp.S v z)) a Φ := by
 obtain ⟨h1, h2, h3⟩ := Oper.apart_spec hap
 have hg : ∀ v, sp.V v → ∃ sj, Gives P ops W0 mk j oj sj a ∧ ∀ u, sj.V u → K ((a.put oi.dst v).put oj.dst u) (fun z => (Φ z ∧ sp.S v z) ∧ sj.S u z) := fun v hv => by
  have h4 := h v hv
  unfold gOp at h4
  simp only [hj] at h4
  obtain ⟨sj, h5, h6⟩ := h4
  exact ⟨sj, h5.of_same (execOp_put oj hsj a oi.dst v h1).symm (wanted_put oj a oi.dst v h1).symm, h6⟩
 obtain ⟨v0, hv0⟩ := hy.ex
 obtain ⟨sj, hsj0, _⟩ := hg v0 hv0
 refine hsj0.gOp hj (fun u hu => ⟨hy.of_same (execOp_put oi hsi a oj.dst u h3) (wanted_put oi a oj.dst u h3), fun v hv => ?_⟩)
 obtain ⟨sj', hs', hK⟩ := hg v hv
 obtain rfl := hs'.unique hsj0
 have hK' := hK u hu
 rw [Act.put_comm a v u h2] at hK'
 rw [show (fun z => (Φ z ∧ sj'.S u z) ∧ sp.S v z) = (fun z => (Φ z ∧ sp.S v z) ∧ sj'.S u z) from funext fun z => propext and_right_comm]
 exact hK'
def anyG (P : Program) (md : Region.Mode) (ops : Array Oper) (W0 : World) (mk : Nat → Option MSpec) (S : Nat → Array Bool → Act → (World → Prop) → Prop) (k : Nat) : Nat → Array Bool → Act → (World → Prop) → Prop
 | 0, listed, a, Φ => upToB k listed = true ∧ S 0 listed a Φ
 | fuel + 1, listed, a, Φ =>
  (upToB k listed = true → S (fuel + 1) listed a Φ) ∧
  (upToB k listed = false → Region.ready md ops listed ≠ [] ∧ ∀ i ∈ Region.ready md ops listed, gOp P ops W0 mk i (anyG P md ops W0 mk S k fuel (listed.setIfInBounds i true)) a Φ)
theorem anyG_first {S : Nat → Array Bool → Act → (World → Prop) → Prop} {k i : Nat} {oi : Oper} {sp : MSpec} (hn : needB md ops k = true) (hik : i < k) (hi : ops[i]? = some oi) (hsel : ∀ (j : Nat) (o : Oper) cs b, ops[j]? = some o → o.op ≠ .select cs b) :
 ∀ (fuel : Nat) (listed : Array Bool) (a : Act) (Φ : World → Prop), Down md ops listed →
  (∀ j oj, ops[j]? = some oj → j ≠ i → listed.getD j true = false → (∀ e ∈ oj.after, Region.binds md e = true → e.on ≠ i) → oi.apart ops oj = true) →
  i ∈ Region.ready md ops listed → Gives P ops W0 mk i oi sp a →
  (∀ v, sp.V v → anyG P md ops W0 mk S k fuel (listed.setIfInBounds i true) (a.put oi.dst v) (fun z => Φ z ∧ sp.S v z)) → anyG P md ops W0 mk S k (fuel + 1) listed a Φ := by
 intro fuel
 induction fuel with
 | zero =>
  intro listed a Φ hd _ hr hy H
  refine ⟨fun hu => (by rw [upToB_ready hik hr] at hu; cases hu), fun _ => ⟨fun e => (by rw [e] at hr; cases hr), fun j hj => ?_⟩⟩
  by_cases hji : j = i
  · subst hji; exact hy.gOp hi H
  · have h1 := (upToB_side hn hik hd (ready_unlisted hr) hj hji).2
    obtain ⟨v, hv⟩ := hy.ex
    rw [(H v hv).1] at h1
    cases h1
 | succ fuel ih =>
  intro listed a Φ hd hfree hr hy H
  refine ⟨fun hu => (by rw [upToB_ready hik hr] at hu; cases hu), fun _ => ⟨fun e => (by rw [e] at hr; cases hr), fun j hj => ?_⟩⟩
  by_cases hji : j = i
  · subst hji; exact hy.gOp hi H
  · have h1 := fun v hv => ((H v hv).2 (upToB_side hn hik hd (ready_unlisted hr) hj hji).2).2 j (ready_mono hj hji)
    obtain ⟨hjun, oj, hoj, hall⟩ := mem_ready.1 hj
    have hnot : ∀ e ∈ oj.after, Region.binds md e = true → e.on ≠ i := fun e he hb heq => by
     have h2 := hall e he hb
     rw [heq, ready_unlisted hr] at h2
     cases h2
    have h2 := gOp_put hoj (hfree j oj hoj hji hjun hnot) (fun cs b => hsel i oi cs b hi) (fun cs b => hsel j oj cs b hoj) hy h1
    have hfree' : ∀ k ok, ops[k]? = some ok → k ≠ i → (listed.setIfInBounds j true).getD k true = false →
     (∀ e ∈ ok.after, Region.binds md e = true → e.on ≠ i) → oi.apart ops ok = true := fun k ok hk hki hun hno => by
     refine hfree k ok hk hki ?_ hno
     by_cases hjk : j = k
     · subst hjk; exact hjun
     · rw [getD_set_ne true hjk] at hun; exact hun
    refine gOp_mono (fun a' Φ' h3 => ih (listed.setIfInBounds j true) a' Φ' (hd.set hj) hfree' (ready_mono hr (Ne.symm hji)) h3.1 ?_) h2
    intro v hv
    rw [Array.setIfInBounds_comm _ _ hji]
    exact h3.2 v hv
def wpG (P : Program) (ops : Array Oper) (W0 : World) (mk : Nat → Option MSpec) (R : Act → (World → Prop) → Prop) : List Oper → Nat → Act → (World → Prop) → Prop
 | [], _, a, Φ => R a Φ
 | o :: rest, i, a, Φ =>
  if Region.wanted o (yielded ops a.tmps) then
   (match mk i with
    | some sp => (∀ z : Bl W0, makesUpon P z.val sp ((execOp a.eval o).run P z.val)) ∧ ∀ v, sp.V v → wpG P ops W0 mk R rest (i + 1) (a.put o.dst v) (fun z => Φ z ∧ sp.S v z)
    | none => stillB P o a W0 (fun a' => wpG P ops W0 mk R rest (i + 1) a' Φ))
  else wpG P ops W0 mk R rest (i + 1) (a.put o.dst undef) Φ
theorem wpG_nil {R : Act → (World → Prop) → Prop} {i : Nat} {a : Act} {Φ : World → Prop} (h : R a Φ) : wpG P ops W0 mk R [] i a Φ := h
theorem wpG_still {R : Act → (World → Prop) → Prop} {i : Nat} {a : Act} {Φ : World → Prop} {o : Oper} {rest : List Oper} (hmk : mk i = none)
 (h : ∀ K : Act → Prop, (∀ a, wpG P ops W0 mk R rest (i + 1) a Φ → K a) → if Region.wanted o (yielded ops a.tmps) then stillB P o a W0 K else K (a.put o.dst undef)) : wpG P ops W0 mk R (o :: rest) i a Φ := by
 have h1 := h _ (fun _ h => h)
 unfold wpG
 rw [hmk]
 exact h1
theorem wpG_make {R : Act → (World → Prop) → Prop} {i : Nat} {a : Act} {Φ : World → Prop} {o : Oper} {rest : List Oper} (sp : MSpec) (hmk : mk i = some sp) (hg : o.guard = none)
 (h1 : ∀ z : Bl W0, makesUpon P z.val sp ((execOp a.eval o).run P z.val)) (h2 : ∀ v, sp.V v → wpG P ops W0 mk R rest (i + 1) (a.put o.dst v) (fun z => Φ z ∧ sp.S v z)) : wpG P ops W0 mk R (o :: rest) i a Φ := by
 have hw : Region.wanted o (yielded ops a.tmps) = true := by simp [Region.wanted, hg]
 unfold wpG
 rw [hmk, if_pos hw]
 exact ⟨h1, h2⟩
theorem anyG_lex {S : Nat → Array Bool → Act → (World → Prop) → Prop} {R : Act → (World → Prop) → Prop} {k m : Nat} (hs : Region.noSelect ops = true) (hn : needB md ops k = true)
 (hR : ∀ (a : Act) (Φ Φ' : World → Prop), (∀ z, Φ' z → Φ z) → R a Φ → R a Φ')
 (hS : ∀ listed a Φ, upToB k listed = true → preFrom.oneFrom md ops (ops.size - k) k listed = true → R a Φ → S m listed a Φ) (is : List Nat) : ∀ (q : Nat) (l : List Oper) (listed : Array Bool) (a : Act) (Φ Φ' : World → Prop), is = (List.range' q l.length) → is.map (fun i => ops[i]?) = l.map some → Down md ops listed →
 preIs md ops k is listed = true → (∀ z, Φ' z → Φ z) → wpG P ops W0 mk R l q a Φ → anyG P md ops W0 mk S k (is.length + m) listed a Φ' := by
 induction is with
 | nil =>
  intro q l listed a Φ Φ' hq hl _ hB hΦ h
  obtain rfl : l = [] := by
   cases l with
   | nil => rfl
   | cons x l => simp at hl
  simp only [preIs, Bool.and_eq_true] at hB
  have h1 := hS listed a Φ' hB.1 hB.2 (hR _ _ _ hΦ h)
  rw [List.length_nil, Nat.zero_add]
  cases m with
  | zero => exact ⟨hB.1, h1⟩
  | succ m => exact ⟨fun _ => h1, fun e => (by rw [hB.1] at e; cases e)⟩
 | cons i is ih =>
  intro q l listed a Φ Φ' hq hl hd hB hΦ h
  cases l with
  | nil => simp at hl
  | cons o l =>
   simp only [List.length_cons, List.range'_succ, List.cons.injEq] at hq
   obtain ⟨rfl, hq⟩ := hq
   simp only [List.map_cons, List.cons.injEq] at hl
   obtain ⟨h0, hl⟩ := hl
   simp only [preIs, Bool.and_eq_true, decide_eq_true_eq] at hB
   obtain ⟨⟨⟨hik, hr⟩, hf⟩, hB'⟩ := hB
   have hr' : i ∈ Region.ready md ops listed := by simpa using hr
   have hst : ∃ sp, Gives P ops W0 mk i o sp a ∧ ∀ v, sp.V v → ∃ Φ2 : World → Prop, (∀ z, Φ' z ∧ sp.S v z → Φ2 z) ∧ wpG P ops W0 mk R l (i + 1) (a.put o.dst v) Φ2 := by
    unfold wpG at h
    by_cases hw : Region.wanted o (yielded ops a.tmps) = true
    · rw [if_pos hw] at h
      cases hm : mk i with
      | none =>
       rw [hm] at h
       obtain ⟨u, h1, h2⟩ := h
       refine ⟨one u, .inr (.inl ⟨hw, hm, u, rfl, h1⟩), ?_⟩
       rintro v rfl
       exact ⟨Φ, fun z hz => hΦ z hz.1, h2⟩
      | some sp =>
       rw [hm] at h
       exact ⟨sp, .inl ⟨hw, hm, h.1⟩, fun v hv => ⟨_, fun z hz => ⟨hΦ z hz.1, hz.2⟩, h.2 v hv⟩⟩
    · rw [if_neg hw] at h
      refine ⟨one undef, .inr (.inr ⟨by simpa using hw, rfl⟩), ?_⟩
      rintro v rfl
      exact ⟨Φ, fun z hz => hΦ z hz.1, h⟩
   obtain ⟨sp, hy, hK⟩ := hst
   have ih' : ∀ v, sp.V v → anyG P md ops W0 mk S k (is.length + m) (listed.setIfInBounds i true) (a.put o.dst v) (fun z => Φ' z ∧ sp.S v z) := fun v hv => by
    obtain ⟨Φ2, h1, h2⟩ := hK v hv
    exact ih (i + 1) l (listed.setIfInBounds i true) (a.put o.dst v) Φ2 _ hq hl (hd.set hr') hB' h1 h2
   have h9 := anyG_first (S := S) hn hik h0 (Region.noSelect_spec hs) _ listed a Φ' hd (Region.free_spec h0 hf) hr' hy ih'
   have e : (i :: is).length + m = is.length + m + 1 := by simp; omega
   rw [e]
   exact h9
theorem wpOpIn_of_gives {i : Nat} {o : Oper} {sp : MSpec} {a : Act} {K' : Act → World → Prop} (hF : Lax F P) (ho : ops[i]? = some o) (hd : notDefer o = true) (z : Bl W0) (hy : Gives P ops W0 mk i o sp a)
 (h : ∀ v, sp.V v → ∀ z' : Bl W0, Below z.val.heap.size z.val z'.val → sp.S v z'.val → K' (a.put o.dst v) z'.val) : wpOpIn F n P ops Q i K' a z.val := by
 unfold wpOpIn
 simp only [ho]
 rcases hy with ⟨hw, _, hv⟩ | ⟨hw, _, u, rfl, hv⟩ | ⟨hw, rfl⟩
 · rw [hw, if_pos rfl]
   refine ⟨fun f _ => hF.fn f, ?_⟩
   rw [Oper.semAt_plain F _ _ (notDefer_spec hd)]
   have h3 := hv z
   generalize (execOp a.eval o).run P z.val = r at *
   cases r with
   | ok x w' =>
    cases x <;> simp only [makesUpon] at h3
    case value u => exact h u h3.1 ⟨w', Below.step z.prop h3.2.2⟩ h3.2.2 h3.2.1
    case enter f args =>
     obtain ⟨e1, hc⟩ := h3
     subst e1
     refine ⟨fun e => (by rw [hF.depth] at e; cases e), (hF.calls _ _ _ _ _ hc).mono ?_⟩
     rintro e w'' ⟨v, rfl, h4, h5, h6⟩
     exact h v h4 ⟨w'', Below.step z.prop h6⟩ h6 h5
   | halt x w' => simp only [makesUpon] at h3
 · rw [hw, if_pos rfl]
   refine ⟨fun f _ => hF.fn f, ?_⟩
   rw [Oper.semAt_plain F _ _ (notDefer_spec hd)]
   have h3 := hv z
   generalize (execOp a.eval o).run P z.val = r at *
   cases r with
   | ok x w' =>
    cases x <;> simp only [stillUpon] at h3
    case value u =>
     obtain ⟨e1, e2⟩ := h3
     subst e1 e2
     exact h _ rfl z (Below.refl _ _) trivial
    case skip =>
     obtain ⟨e1, e2⟩ := h3
     subst e1 e2
     exact h _ rfl z (Below.refl _ _) trivial
   | halt x w' => simp only [stillUpon] at h3
 · rw [hw, if_neg (by simp)]
   exact ⟨fun f _ => hF.fn f, h _ rfl z (Below.refl _ _) trivial⟩
theorem Gives.keeps {i : Nat} {o : Oper} {sp : MSpec} {a : Act} (hy : Gives P ops W0 mk i o sp a) (hk : ∀ i sp, mk i = some sp → sp.Keeps) : sp.Keeps := by
 rcases hy with ⟨_, h, _⟩ | ⟨_, _, u, rfl, _⟩ | ⟨_, rfl⟩
 · exact hk i sp h
 · exact fun _ _ _ _ _ => trivial
 · exact fun _ _ _ _ _ => trivial
theorem wpAnyIn_of_anyG {k : Nat} (hF : Lax F P) (hdef : ∀ (i : Nat) o, ops[i]? = some o → i < k → notDefer o = true) (hn : needB md ops k = true) (hk : ∀ i sp, mk i = some sp → sp.Keeps) : ∀ (fuel : Nat) (listed : Array Bool) (a : Act) (Φ : World → Prop) (z : Bl W0), Down md ops listed → (∀ z z', Φ z → Below z.heap.size z z' → Φ z') → Φ z.val →
 anyG P md ops W0 mk (fun fuel listed a Φ => ∀ z : Bl W0, Φ z.val → wpAnyIn F n P md ops Q fuel listed a z.val) k fuel listed a Φ → wpAnyIn F n P md ops Q fuel listed a z.val
 | 0, _, _, _, z, _, _, hz, h => h.2 z hz
 | fuel + 1, listed, a, Φ, z, hd, hΦ, hz, h => by
  cases hu : upToB k listed with
  | true => exact h.1 hu z hz
  | false =>
   obtain ⟨hne, hall⟩ := h.2 hu
   refine ⟨fun e => absurd e hne, fun i hi => ?_⟩
   have hik : i < k := by
    rcases Nat.lt_or_ge i k with h1 | h1
    · exact h1
    · rw [upToB_spec.2 (needB_spec hn hd hi h1)] at hu
      cases hu
   obtain ⟨_, o, ho, _⟩ := mem_ready.1 hi
   have h1 := hall i hi
   unfold gOp at h1
   simp only [ho] at h1
   obtain ⟨sp, hy, hK⟩ := h1
   have hks := hy.keeps hk
   refine wpOpIn_of_gives hF ho (hdef i o ho hik) z hy (fun v hv z' hz' hS => ?_)
   exact wpAnyIn_of_anyG hF hdef hn hk fuel _ _ _ z' (hd.set hi) (fun x y hx hxy => ⟨hΦ x y hx.1 hxy, hks v x y hx.2 hxy⟩) ⟨hΦ _ _ hz hz', hS⟩ (hK v hv)
def makeB (ops : Array Oper) (k : Nat) : Bool := Region.noSelect ops && needB .any ops k && preIs .any ops k (List.range' 0 k) (Array.replicate ops.size false) && (ops.toList.take k).all notDefer
theorem wpIn_region_make {id : Nat} {a : Act} {s : Bl W0} {l : List Oper} (k : Nat) (mk : Nat → Option MSpec) (hF : Lax F P) (hk : k ≤ l.length) (hm : P.follows .mixedOrders = true) (hB : makeB l.toArray k = true) (hks : ∀ i sp, mk i = some sp → sp.Keeps)
 (h : wpG P l.toArray W0 mk (fun a' Φ => ∀ z : Bl W0, Φ z.val → wpListIn F n P l.toArray Q (l.drop k) a' z.val) (l.take k) 0 a (fun _ => True)) : (Code.region id l.toArray true).wpIn F n P Q a s.val := by
 simp only [makeB, Bool.and_eq_true] at hB
 obtain ⟨⟨⟨hs, hn⟩, hp⟩, hd⟩ := hB
 have hdown : Down .any l.toArray (Array.replicate l.toArray.size false) := fun j hj => by
  exfalso
  rcases Nat.lt_or_ge j l.length with h' | h'
  · simp [h'] at hj
  · simp [h'] at hj
 refine wpIn_region_any hm ?_
 have hlen : (l.take k).length = k := by simp; omega
 have h1 := anyG_lex (md := .any) (ops := l.toArray) (P := P) (W0 := W0) (mk := mk) (S := fun fuel listed a Φ => ∀ z : Bl W0, Φ z.val → wpAnyIn F n P .any l.toArray Q fuel listed a z.val) (k := k) (m := l.toArray.size - k) hs hn
  (R := fun a' Φ => ∀ z : Bl W0, Φ z.val → wpListIn F n P l.toArray Q (l.drop k) a' z.val)
  (fun a Φ Φ' hΦ hr z hz => hr z (hΦ _ hz))
  (fun listed a' Φ hu ho h0 z hz => by
   have h2 := wpAnyIn_one (F := F) (n := n) (P := P) (ops := l.toArray) (Q := Q) (md := .any) (l.drop k) k listed a' z.val (fun j => by simp) (by simpa using ho) (h0 z hz)
   simpa using h2)
  (List.range' 0 k) 0 (l.take k) (Array.replicate l.toArray.size false) a (fun _ => True) (fun _ => True) (by rw [hlen]) (by
   apply List.ext_getElem?
   intro j
   rw [List.getElem?_map, List.getElem?_map, List.getElem?_take]
   by_cases hj : j < k
   · rw [List.getElem?_range' hj, if_pos hj]
     have : j < l.length := by omega
     simp [this]
   · rw [if_neg hj, List.getElem?_eq_none (by simp; omega)]
     rfl) hdown hp (fun _ h => h) h
 rw [show (List.range' 0 k).length + (l.toArray.size - k) = l.toArray.size by simp; omega] at h1
 refine wpAnyIn_of_anyG hF (fun i o ho hi => ?_) hn hks _ _ _ _ ⟨s.val.drew, s.prop.drew⟩ hdown (fun _ _ _ _ => trivial) trivial h1
 have h2 := List.all_eq_true.1 hd o
 refine h2 ?_
 rw [List.mem_iff_getElem?]
 exact ⟨i, by rw [List.getElem?_take, if_pos hi]; simpa using ho⟩
theorem wp_region_make {id : Nat} {a : Act} {s : Bl W0} {l : List Oper} (k : Nat) (mk : Nat → Option MSpec) (hk : k ≤ l.length) (hm : P.follows .mixedOrders = true) (hB : makeB l.toArray k = true) (hks : ∀ i sp, mk i = some sp → sp.Keeps)
 (h : wpG P l.toArray W0 mk (fun a' Φ => ∀ z : Bl W0, Φ z.val → wpListIn Fence.wide 0 P l.toArray Q (l.drop k) a' z.val) (l.take k) 0 a (fun _ => True)) : (Code.region id l.toArray true).wp P Q a s.val :=
 wpIn_wide.1 (wpIn_region_make (n := 0) k mk (Lax.wide P) hk hm hB hks h)
end
end Go.Proofs.YtahhdjeclbagnaaGreatDoor
