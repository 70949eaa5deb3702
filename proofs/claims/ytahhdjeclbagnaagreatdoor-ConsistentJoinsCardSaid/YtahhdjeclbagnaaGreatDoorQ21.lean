/-
  Turn
-/
import Derived.Test.YtahhdjeclbagnaaGreatDoorQ19
namespace Go.Proofs.YtahhdjeclbagnaaGreatDoor
open Go.RowKit
structure Wl (C : World → Prop) where
 val : World
 prop : C val
structure Turns (C0 C1 : World → Prop) (T : World → World → Prop) : Prop where
 sub : ∀ z, C0 z → C1 z
 b0 : ∀ z z', C0 z → Below z.heap.size z z' → C0 z'
 b1 : ∀ z z', C1 z → Below z.heap.size z z' → C1 z'
 t : ∀ z z', C0 z → T z z' → C1 z'
def stillC (P : Program) (o : Oper) (a : Act) (C : World → Prop) (next : Act → Prop) : Prop := ∃ v, (∀ z : Wl C, stillUpon z.val v ((execOp a.eval o).run P z.val)) ∧ next (a.put o.dst v)
def turnedUpon (T : World → World → Prop) (w : World) (sp : MSpec) : Result Next → Prop
 | .ok (.value u) w' => sp.V u ∧ sp.S u w' ∧ T w w'
 | _ => False
def aftB (ops : Array Oper) (f i : Nat) : Bool := match ops[i]? with
 | some o => o.after.any (fun e => Region.binds .any e && e.on == f)
 | none => false
theorem aftB_edge {ops : Array Oper} {f i : Nat} (h : aftB ops f i = true) : ∃ o, ops[i]? = some o ∧ ∃ e ∈ o.after, Region.binds .any e = true ∧ e.on = f := by
 unfold aftB at h
 cases ho : ops[i]? with
 | none => rw [ho] at h; cases h
 | some o =>
  rw [ho] at h
  simp only [Array.any_eq_true', Bool.and_eq_true, beq_iff_eq] at h
  obtain ⟨e, he, h1, h2⟩ := h
  exact ⟨o, rfl, e, he, h1, h2⟩
theorem aftB_down {ops : Array Oper} {f i : Nat} {listed : Array Bool} (hd : Down .any ops listed) (hf : listed.getD f false = false) (hi : listed.getD i false = true) : aftB ops f i = false := by
 cases h : aftB ops f i with
 | false => rfl
 | true =>
  obtain ⟨o, ho, e, he, h1, h2⟩ := aftB_edge h
  have h3 := hd i hi o ho e he h1
  rw [h2, hf] at h3
  cases h3
theorem aftB_ready {ops : Array Oper} {f i : Nat} {listed : Array Bool} (hf : listed.getD f false = false) (hi : i ∈ Region.ready .any ops listed) : aftB ops f i = false := by
 cases h : aftB ops f i with
 | false => rfl
 | true =>
  obtain ⟨o, ho, e, he, h1, h2⟩ := aftB_edge h
  obtain ⟨_, o', ho', hall⟩ := mem_ready.1 hi
  rw [ho] at ho'
  cases ho'
  have h3 := hall e he h1
  rw [h2, hf] at h3
  cases h3
def KeepsT (ops : Array Oper) (T : World → World → Prop) (f i : Nat) (sp : MSpec) : Prop := sp.Keeps ∧ (i ≠ f → aftB ops f i = false → ∀ v z z', sp.S v z → T z z' → sp.S v z')
def StepT (T : World → World → Prop) (f i : Nat) (z z' : World) : Prop := Below z.heap.size z z' ∨ (i = f ∧ T z z')
section
variable {F : Fence} {n : Nat} {P : Program} {ops : Array Oper} {md : Region.Mode} {C0 C1 : World → Prop} {T : World → World → Prop} {f : Nat} {Q : Exit → Act → World → Prop} {mk : Nat → Option MSpec} {dep : Nat → List Nat}
theorem facts_putT {i k : Nat} {ds : List Nat} {o : Oper} {a : Act} {v : Value} {z z' : World} {listed : Array Bool} (hdn : Down .any ops listed) (hun : listed.getD i false = false) (hdp : depB ops k ds dep = true) (hik : i < k) (ho : ops[i]? = some o) (hil : i < listed.size) (hbn : BndE ops ds a) (hfa : FactsE ops mk ds listed a z) (hk : ∀ i sp, mk i = some sp → KeepsT ops T f i sp) (hz : StepT T f i z z')
 (hv : ∀ sp', mk i = some sp' → i ∈ ds → sp'.S v z') : FactsE ops mk ds (listed.setIfInBounds i true) (a.put o.dst v) z' := by
 intro p hp hl sp hsp o' t ho' ht
 by_cases e : p = i
 · subst e
   rw [ho] at ho'
   cases ho'
   have hb := hbn p hp o t ho ht
   have h1 : (a.put o.dst v).tmps.getD t undef = v := by rw [ht]; simp [Act.put, hb]
   rw [h1]
   exact hv sp hsp hp
 · rw [getD_set_ne false (fun h => e h.symm)] at hl
   have h1 : (a.put o.dst v).tmps.getD t undef = a.tmps.getD t undef := by
    have h2 := (depB_spec hdp).2.1 p hp i hik (fun h => e h.symm) o' t o ho' ht ho
    cases hd : o.dst with
    | none => rfl
    | some d =>
     have hne : d ≠ t := fun h => h2 (by rw [hd, h])
     simp [Act.put, Array.getElem?_setIfInBounds_ne hne]
   rw [h1]
   have h3 := hfa p hp hl sp hsp o' t ho' ht
   rcases hz with hz | ⟨rfl, hz⟩
   · exact (hk p sp hsp).1 _ _ _ h3 hz
   · exact (hk p sp hsp).2 e (aftB_down hdn hun hl) _ _ _ h3 hz
def GivesT (P : Program) (ops : Array Oper) (C0 C1 : World → Prop) (T : World → World → Prop) (f : Nat) (mk : Nat → Option MSpec) (dep : Nat → List Nat) (i : Nat) (o : Oper) (sp : MSpec) (a : Act) : Prop :=
 (Region.wanted o (yielded ops a.tmps) = true ∧ mk i = some sp ∧ (∃ v, sp.V v) ∧ ((i ≠ f ∧ ∀ z : Wl C1, PreE ops mk dep i a z.val → makesUpon P z.val sp ((execOp a.eval o).run P z.val)) ∨ (i = f ∧ ∀ z : Wl C0, PreE ops mk dep i a z.val → turnedUpon T z.val sp ((execOp a.eval o).run P z.val)))) ∨
 (Region.wanted o (yielded ops a.tmps) = true ∧ mk i = none ∧ ∃ u, sp = one u ∧ ∀ z : Wl C1, stillUpon z.val u ((execOp a.eval o).run P z.val)) ∨
 (Region.wanted o (yielded ops a.tmps) = false ∧ sp = one undef)
theorem GivesT.unique [Inhabited (Wl C1)] {i : Nat} {o : Oper} {sp sp' : MSpec} {a : Act} (h : GivesT P ops C0 C1 T f mk dep i o sp a) (h' : GivesT P ops C0 C1 T f mk dep i o sp' a) : sp = sp' := by
 rcases h with ⟨h1, h2, _, _⟩ | ⟨h1, h2, u, rfl, h4⟩ | ⟨h1, rfl⟩
 · rcases h' with ⟨_, h3, _, _⟩ | ⟨_, h3, _⟩ | ⟨h3, _⟩
   · rw [h2] at h3; injection h3
   · rw [h2] at h3; cases h3
   · rw [h1] at h3; cases h3
 · rcases h' with ⟨_, h3, _⟩ | ⟨_, h3, v, rfl, h5⟩ | ⟨h3, _⟩
   · rw [h2] at h3; cases h3
   · rw [stillUpon_unique (h4 default) (h5 default)]
   · rw [h1] at h3; cases h3
 · rcases h' with ⟨h3, _⟩ | ⟨h3, _⟩ | ⟨_, h4⟩
   · rw [h1] at h3; cases h3
   · rw [h1] at h3; cases h3
   · exact h4.symm
theorem GivesT.ex {i : Nat} {o : Oper} {sp : MSpec} {a : Act} (h : GivesT P ops C0 C1 T f mk dep i o sp a) : ∃ v, sp.V v := by
 rcases h with ⟨_, _, h3, _⟩ | ⟨_, _, u, rfl, _⟩ | ⟨_, rfl⟩
 · exact h3
 · exact ⟨u, rfl⟩
 · exact ⟨undef, rfl⟩
theorem GivesT.of_same {i : Nat} {o : Oper} {sp : MSpec} {a a' : Act} (hy : GivesT P ops C0 C1 T f mk dep i o sp a) (he : execOp a'.eval o = execOp a.eval o) (hw : Region.wanted o (yielded ops a'.tmps) = Region.wanted o (yielded ops a.tmps)) (hp : ∀ z, PreE ops mk dep i a' z → PreE ops mk dep i a z) : GivesT P ops C0 C1 T f mk dep i o sp a' := by
 unfold GivesT at *
 rw [he, hw]
 rcases hy with ⟨h1, h2, h3, h4⟩ | h
 · refine .inl ⟨h1, h2, h3, ?_⟩
   rcases h4 with ⟨h4, h5⟩ | ⟨h4, h5⟩
   · exact .inl ⟨h4, fun z hz => h5 z (hp _ hz)⟩
   · exact .inr ⟨h4, fun z hz => h5 z (hp _ hz)⟩
 · exact .inr h
def tOp (P : Program) (ops : Array Oper) (C0 C1 : World → Prop) (T : World → World → Prop) (f : Nat) (mk : Nat → Option MSpec) (dep : Nat → List Nat) (i : Nat) (K : Act → (World → Prop) → Prop) (a : Act) (Φ : World → Prop) : Prop :=
 match ops[i]? with
 | none => K a Φ
 | some o => ∃ sp, GivesT P ops C0 C1 T f mk dep i o sp a ∧ ∀ v, sp.V v → K (a.put o.dst v) (fun z => Φ z ∧ sp.S v z)
theorem tOp_mono {i : Nat} {a : Act} {Φ : World → Prop} {K K' : Act → (World → Prop) → Prop} (h : ∀ a Φ, K a Φ → K' a Φ) (hh : tOp P ops C0 C1 T f mk dep i K a Φ) : tOp P ops C0 C1 T f mk dep i K' a Φ := by
 unfold tOp at *
 split
 · exact h _ _ (by simpa [*] using hh)
 · rename_i o ho
   simp only [ho] at hh
   obtain ⟨sp, h1, h2⟩ := hh
   exact ⟨sp, h1, fun v hv => h _ _ (h2 v hv)⟩
theorem GivesT.tOp {i : Nat} {o : Oper} {sp : MSpec} {a : Act} {Φ : World → Prop} (hi : ops[i]? = some o) (hy : GivesT P ops C0 C1 T f mk dep i o sp a) {K : Act → (World → Prop) → Prop} (h : ∀ v, sp.V v → K (a.put o.dst v) (fun z => Φ z ∧ sp.S v z)) : tOp P ops C0 C1 T f mk dep i K a Φ := by
 unfold Go.Proofs.YtahhdjeclbagnaaGreatDoor.tOp
 simp only [hi]
 exact ⟨sp, hy, h⟩
theorem tOp_put [Inhabited (Wl C1)] {i j k : Nat} {ds : List Nat} {oi oj : Oper} {sp : MSpec} (hB : depB ops k ds dep = true) (hi : ops[i]? = some oi) (hik : i < k) (hjk : j < k) (hj : ops[j]? = some oj) (hap : oi.apart ops oj = true) (hsi : ∀ cs b, oi.op ≠ .select cs b) (hsj : ∀ cs b, oj.op ≠ .select cs b) {K : Act → (World → Prop) → Prop} {a : Act} {Φ : World → Prop}
 (hy : GivesT P ops C0 C1 T f mk dep i oi sp a) (h : ∀ v, sp.V v → tOp P ops C0 C1 T f mk dep j K (a.put oi.dst v) (fun z => Φ z ∧ sp.S v z)) :
 tOp P ops C0 C1 T f mk dep j (fun a' Φ' => GivesT P ops C0 C1 T f mk dep i oi sp a' ∧ ∀ v, sp.V v → K (a'.put oi.dst v) (fun z => Φ' z ∧ sp.S v z)) a Φ := by
 obtain ⟨h1, h2, h3⟩ := Oper.apart_spec hap
 have hg : ∀ v, sp.V v → ∃ sj, GivesT P ops C0 C1 T f mk dep j oj sj a ∧ ∀ u, sj.V u → K ((a.put oi.dst v).put oj.dst u) (fun z => (Φ z ∧ sp.S v z) ∧ sj.S u z) := fun v hv => by
  have h4 := h v hv
  unfold tOp at h4
  simp only [hj] at h4
  obtain ⟨sj, h5, h6⟩ := h4
  exact ⟨sj, h5.of_same (execOp_put oj hsj a oi.dst v h1).symm (wanted_put oj a oi.dst v h1).symm (fun z hz => (pre_put hB hj hjk h1 z).2 hz), h6⟩
 obtain ⟨v0, hv0⟩ := hy.ex
 obtain ⟨sj, hsj0, _⟩ := hg v0 hv0
 refine hsj0.tOp hj (fun u hu => ⟨hy.of_same (execOp_put oi hsi a oj.dst u h3) (wanted_put oi a oj.dst u h3) (fun z hz => (pre_put hB hi hik h3 z).1 hz), fun v hv => ?_⟩)
 obtain ⟨sj', hs', hK⟩ := hg v hv
 obtain rfl := hs'.unique hsj0
 have hK' := hK u hu
 rw [Act.put_comm a v u h2] at hK'
 rw [show (fun z => (Φ z ∧ sj'.S u z) ∧ sp.S v z) = (fun z => (Φ z ∧ sp.S v z) ∧ sj'.S u z) from funext fun z => propext and_right_comm]
 exact hK'
def anyT (P : Program) (md : Region.Mode) (ops : Array Oper) (C0 C1 : World → Prop) (T : World → World → Prop) (f : Nat) (mk : Nat → Option MSpec) (dep : Nat → List Nat) (S : Nat → Array Bool → Act → (World → Prop) → Prop) (k : Nat) : Nat → Array Bool → Act → (World → Prop) → Prop
 | 0, listed, a, Φ => upToB k listed = true ∧ S 0 listed a Φ
 | fuel + 1, listed, a, Φ =>
  (upToB k listed = true → S (fuel + 1) listed a Φ) ∧
  (upToB k listed = false → Region.ready md ops listed ≠ [] ∧ ∀ i ∈ Region.ready md ops listed, i < k → tOp P ops C0 C1 T f mk dep i (anyT P md ops C0 C1 T f mk dep S k fuel (listed.setIfInBounds i true)) a Φ)
theorem anyT_first [Inhabited (Wl C1)] {S : Nat → Array Bool → Act → (World → Prop) → Prop} {k i : Nat} {ds : List Nat} {oi : Oper} {sp : MSpec} (hB : depB ops k ds dep = true) (hik : i < k) (hi : ops[i]? = some oi) (hsel : ∀ (j : Nat) (o : Oper) cs b, ops[j]? = some o → o.op ≠ .select cs b) :
 ∀ (fuel : Nat) (listed : Array Bool) (a : Act) (Φ : World → Prop), Down md ops listed →
  (∀ j oj, ops[j]? = some oj → j ≠ i → listed.getD j true = false → (∀ e ∈ oj.after, Region.binds md e = true → e.on ≠ i) → oi.apart ops oj = true) →
  i ∈ Region.ready md ops listed → GivesT P ops C0 C1 T f mk dep i oi sp a →
  (∀ v, sp.V v → anyT P md ops C0 C1 T f mk dep S k fuel (listed.setIfInBounds i true) (a.put oi.dst v) (fun z => Φ z ∧ sp.S v z)) → anyT P md ops C0 C1 T f mk dep S k (fuel + 1) listed a Φ := by
 intro fuel
 induction fuel with
 | zero =>
  intro listed a Φ hd _ hr hy H
  refine ⟨fun hu => (by rw [upToB_ready hik hr] at hu; cases hu), fun _ => ⟨fun e => (by rw [e] at hr; cases hr), fun j hj hjk => ?_⟩⟩
  by_cases hji : j = i
  · subst hji; exact hy.tOp hi H
  · have h1 := upToB_ready hjk (ready_mono hj hji)
    obtain ⟨v, hv⟩ := hy.ex
    rw [(H v hv).1] at h1
    cases h1
 | succ fuel ih =>
  intro listed a Φ hd hfree hr hy H
  refine ⟨fun hu => (by rw [upToB_ready hik hr] at hu; cases hu), fun _ => ⟨fun e => (by rw [e] at hr; cases hr), fun j hj hjk => ?_⟩⟩
  by_cases hji : j = i
  · subst hji; exact hy.tOp hi H
  · have h1 := fun v hv => ((H v hv).2 (upToB_ready hjk (ready_mono hj hji))).2 j (ready_mono hj hji) hjk
    obtain ⟨hjun, oj, hoj, hall⟩ := mem_ready.1 hj
    have hnot : ∀ e ∈ oj.after, Region.binds md e = true → e.on ≠ i := fun e he hb heq => by
     have h2 := hall e he hb
     rw [heq, ready_unlisted hr] at h2
     cases h2
    have h2 := tOp_put hB hi hik hjk hoj (hfree j oj hoj hji hjun hnot) (fun cs b => hsel i oi cs b hi) (fun cs b => hsel j oj cs b hoj) hy h1
    have hfree' : ∀ k ok, ops[k]? = some ok → k ≠ i → (listed.setIfInBounds j true).getD k true = false →
     (∀ e ∈ ok.after, Region.binds md e = true → e.on ≠ i) → oi.apart ops ok = true := fun k ok hk hki hun hno => by
     refine hfree k ok hk hki ?_ hno
     by_cases hjk : j = k
     · subst hjk; exact hjun
     · rw [getD_set_ne true hjk] at hun; exact hun
    refine tOp_mono (fun a' Φ' h3 => ih (listed.setIfInBounds j true) a' Φ' (hd.set hj) hfree' (ready_mono hr (Ne.symm hji)) h3.1 ?_) h2
    intro v hv
    rw [Array.setIfInBounds_comm _ _ hji]
    exact h3.2 v hv
def wpT (P : Program) (ops : Array Oper) (C0 C1 : World → Prop) (T : World → World → Prop) (f : Nat) (mk : Nat → Option MSpec) (dep : Nat → List Nat) (R : Act → (World → Prop) → Prop) : List Oper → Nat → Act → (World → Prop) → Prop
 | [], _, a, Φ => R a Φ
 | o :: rest, i, a, Φ =>
  if Region.wanted o (yielded ops a.tmps) then
   (match mk i with
    | some sp => ((∃ v, sp.V v) ∧ ((i ≠ f ∧ ∀ z : Wl C1, PreE ops mk dep i a z.val → makesUpon P z.val sp ((execOp a.eval o).run P z.val)) ∨ (i = f ∧ ∀ z : Wl C0, PreE ops mk dep i a z.val → turnedUpon T z.val sp ((execOp a.eval o).run P z.val)))) ∧ ∀ v, sp.V v → wpT P ops C0 C1 T f mk dep R rest (i + 1) (a.put o.dst v) (fun z => Φ z ∧ sp.S v z)
    | none => stillC P o a C1 (fun a' => wpT P ops C0 C1 T f mk dep R rest (i + 1) a' Φ))
  else wpT P ops C0 C1 T f mk dep R rest (i + 1) (a.put o.dst undef) Φ
theorem wpT_nil {R : Act → (World → Prop) → Prop} {i : Nat} {a : Act} {Φ : World → Prop} (h : R a Φ) : wpT P ops C0 C1 T f mk dep R [] i a Φ := h
theorem wpT_still {R : Act → (World → Prop) → Prop} {i : Nat} {a : Act} {Φ : World → Prop} {o : Oper} {rest : List Oper} (hmk : mk i = none)
 (h : ∀ K : Act → Prop, (∀ a, wpT P ops C0 C1 T f mk dep R rest (i + 1) a Φ → K a) → if Region.wanted o (yielded ops a.tmps) then stillC P o a C1 K else K (a.put o.dst undef)) : wpT P ops C0 C1 T f mk dep R (o :: rest) i a Φ := by
 have h1 := h _ (fun _ h => h)
 unfold wpT
 rw [hmk]
 exact h1
theorem wpT_make {R : Act → (World → Prop) → Prop} {i : Nat} {a : Act} {Φ : World → Prop} {o : Oper} {rest : List Oper} (sp : MSpec) (hmk : mk i = some sp) (hif : (i == f) = false) (hg : o.guard = none)
 (h0 : ∃ v, sp.V v) (h1 : ∀ z : Wl C1, PreE ops mk dep i a z.val → makesUpon P z.val sp ((execOp a.eval o).run P z.val)) (h2 : ∀ v, sp.V v → wpT P ops C0 C1 T f mk dep R rest (i + 1) (a.put o.dst v) (fun z => Φ z ∧ sp.S v z)) : wpT P ops C0 C1 T f mk dep R (o :: rest) i a Φ := by
 have hw : Region.wanted o (yielded ops a.tmps) = true := by simp [Region.wanted, hg]
 unfold wpT
 rw [hmk, if_pos hw]
 exact ⟨⟨h0, .inl ⟨by simpa using hif, h1⟩⟩, h2⟩
theorem wpT_turn {R : Act → (World → Prop) → Prop} {i : Nat} {a : Act} {Φ : World → Prop} {o : Oper} {rest : List Oper} (sp : MSpec) (hmk : mk i = some sp) (hif : i = f) (hg : o.guard = none)
 (h0 : ∃ v, sp.V v) (h1 : ∀ z : Wl C0, PreE ops mk dep i a z.val → turnedUpon T z.val sp ((execOp a.eval o).run P z.val)) (h2 : ∀ v, sp.V v → wpT P ops C0 C1 T f mk dep R rest (i + 1) (a.put o.dst v) (fun z => Φ z ∧ sp.S v z)) : wpT P ops C0 C1 T f mk dep R (o :: rest) i a Φ := by
 have hw : Region.wanted o (yielded ops a.tmps) = true := by simp [Region.wanted, hg]
 unfold wpT
 rw [hmk, if_pos hw]
 exact ⟨⟨h0, .inr ⟨hif, h1⟩⟩, h2⟩
theorem anyT_lex [Inhabited (Wl C1)] {S : Nat → Array Bool → Act → (World → Prop) → Prop} {R : Act → (World → Prop) → Prop} {k m : Nat} {ds : List Nat} (hdp : depB ops k ds dep = true) (hs : Region.noSelect ops = true)
 (hR : ∀ (a : Act) (Φ Φ' : World → Prop), (∀ z, Φ' z → Φ z) → R a Φ → R a Φ')
 (hS : ∀ listed a Φ, upToB k listed = true → preFrom.oneFrom md ops (ops.size - k) k listed = true → R a Φ → S m listed a Φ) (is : List Nat) : ∀ (q : Nat) (l : List Oper) (listed : Array Bool) (a : Act) (Φ Φ' : World → Prop), is = (List.range' q l.length) → is.map (fun i => ops[i]?) = l.map some → Down md ops listed →
 preIs md ops k is listed = true → (∀ z, Φ' z → Φ z) → wpT P ops C0 C1 T f mk dep R l q a Φ → anyT P md ops C0 C1 T f mk dep S k (is.length + m) listed a Φ' := by
 induction is with
 | nil =>
  intro q l listed a Φ Φ' hq hl _ hB hΦ h
  obtain rfl : l = [] := by
   cases l with
   | nil => rfl
   | cons x l => simp at hl
  simp only [preIs, Bool.and_eq_true] at hB
  have h1 := hS listed a Φ' hB.1 hB.2 (hR _ _ _ hΦ h)
  rw [List.length_nil, Nat.zero_add]
  cases m with
  | zero => exact ⟨hB.1, h1⟩
  | succ m => exact ⟨fun _ => h1, fun e => (by rw [hB.1] at e; cases e)⟩
 | cons i is ih =>
  intro q l listed a Φ Φ' hq hl hd hB hΦ h
  cases l with
  | nil => simp at hl
  | cons o l =>
   simp only [List.length_cons, List.range'_succ, List.cons.injEq] at hq
   obtain ⟨rfl, hq⟩ := hq
   simp only [List.map_cons, List.cons.injEq] at hl
   obtain ⟨h0, hl⟩ := hl
   simp only [preIs, Bool.and_eq_true, decide_eq_true_eq] at hB
   obtain ⟨⟨⟨hik, hr⟩, hf⟩, hB'⟩ := hB
   have hr' : i ∈ Region.ready md ops listed := by simpa using hr
   have hst : ∃ sp, GivesT P ops C0 C1 T f mk dep i o sp a ∧ ∀ v, sp.V v → ∃ Φ2 : World → Prop, (∀ z, Φ' z ∧ sp.S v z → Φ2 z) ∧ wpT P ops C0 C1 T f mk dep R l (i + 1) (a.put o.dst v) Φ2 := by
    unfold wpT at h
    by_cases hw : Region.wanted o (yielded ops a.tmps) = true
    · rw [if_pos hw] at h
      cases hm : mk i with
      | none =>
       rw [hm] at h
       obtain ⟨u, h1, h2⟩ := h
       refine ⟨one u, .inr (.inl ⟨hw, hm, u, rfl, h1⟩), ?_⟩
       rintro v rfl
       exact ⟨Φ, fun z hz => hΦ z hz.1, h2⟩
      | some sp =>
       rw [hm] at h
       exact ⟨sp, .inl ⟨hw, hm, h.1.1, h.1.2⟩, fun v hv => ⟨_, fun z hz => ⟨hΦ z hz.1, hz.2⟩, h.2 v hv⟩⟩
    · rw [if_neg hw] at h
      refine ⟨one undef, .inr (.inr ⟨by simpa using hw, rfl⟩), ?_⟩
      rintro v rfl
      exact ⟨Φ, fun z hz => hΦ z hz.1, h⟩
   obtain ⟨sp, hy, hK⟩ := hst
   have ih' : ∀ v, sp.V v → anyT P md ops C0 C1 T f mk dep S k (is.length + m) (listed.setIfInBounds i true) (a.put o.dst v) (fun z => Φ' z ∧ sp.S v z) := fun v hv => by
    obtain ⟨Φ2, h1, h2⟩ := hK v hv
    exact ih (i + 1) l (listed.setIfInBounds i true) (a.put o.dst v) Φ2 _ hq hl (hd.set hr') hB' h1 h2
   have h9 := anyT_first (S := S) hdp hik h0 (Region.noSelect_spec hs) _ listed a Φ' hd (Region.free_spec h0 hf) hr' hy ih'
   have e : (i :: is).length + m = is.length + m + 1 := by simp; omega
   rw [e]
   exact h9
theorem wpOpIn_of_givesT {i : Nat} {o : Oper} {sp : MSpec} {a : Act} {K' : Act → World → Prop} (hF : Lax F P) (hT : Turns C0 C1 T) (ho : ops[i]? = some o) (hd : notDefer o = true) (z : Wl C1) (hz0 : i = f → C0 z.val) (hy : GivesT P ops C0 C1 T f mk dep i o sp a) (hpre : PreE ops mk dep i a z.val)
 (h : ∀ v, sp.V v → ∀ z' : Wl C1, StepT T f i z.val z'.val → (i ≠ f → Below z.val.heap.size z.val z'.val) → sp.S v z'.val → K' (a.put o.dst v) z'.val) : wpOpIn F n P ops Q i K' a z.val := by
 unfold wpOpIn
 simp only [ho]
 rcases hy with ⟨hw, _, _, hv | hv⟩ | ⟨hw, _, u, rfl, hv⟩ | ⟨hw, rfl⟩
 · rw [hw, if_pos rfl]
   refine ⟨fun f _ => hF.fn f, ?_⟩
   rw [Oper.semAt_plain F _ _ (notDefer_spec hd)]
   have h3 := hv.2 z hpre
   generalize (execOp a.eval o).run P z.val = r at *
   cases r with
   | ok x w' =>
    cases x <;> simp only [makesUpon] at h3
    case value u => exact h u h3.1 ⟨w', hT.b1 _ _ z.prop h3.2.2⟩ (.inl h3.2.2) (fun _ => h3.2.2) h3.2.1
    case enter f args =>
     obtain ⟨e1, hc⟩ := h3
     subst e1
     refine ⟨fun e => (by rw [hF.depth] at e; cases e), (hF.calls _ _ _ _ _ hc).mono ?_⟩
     rintro e w'' ⟨v, rfl, h4, h5, h6⟩
     exact h v h4 ⟨w'', hT.b1 _ _ z.prop h6⟩ (.inl h6) (fun _ => h6) h5
   | halt x w' => simp only [makesUpon] at h3
 · rw [hw, if_pos rfl]
   refine ⟨fun f _ => hF.fn f, ?_⟩
   rw [Oper.semAt_plain F _ _ (notDefer_spec hd)]
   have h0 := hz0 hv.1
   have h3 := hv.2 ⟨z.val, h0⟩ hpre
   simp only at h3
   generalize (execOp a.eval o).run P z.val = r at *
   cases r with
   | ok x w' =>
    cases x <;> simp only [turnedUpon] at h3
    case value u => exact h u h3.1 ⟨w', hT.t _ _ h0 h3.2.2⟩ (.inr ⟨hv.1, h3.2.2⟩) (fun e => absurd hv.1 e) h3.2.1
   | halt x w' => simp only [turnedUpon] at h3
 · rw [hw, if_pos rfl]
   refine ⟨fun f _ => hF.fn f, ?_⟩
   rw [Oper.semAt_plain F _ _ (notDefer_spec hd)]
   have h3 := hv z
   generalize (execOp a.eval o).run P z.val = r at *
   cases r with
   | ok x w' =>
    cases x <;> simp only [stillUpon] at h3
    case value u =>
     obtain ⟨e1, e2⟩ := h3
     subst e1 e2
     exact h _ rfl z (.inl (Below.refl _ _)) (fun _ => Below.refl _ _) trivial
    case skip =>
     obtain ⟨e1, e2⟩ := h3
     subst e1 e2
     exact h _ rfl z (.inl (Below.refl _ _)) (fun _ => Below.refl _ _) trivial
   | halt x w' => simp only [stillUpon] at h3
 · rw [hw, if_neg (by simp)]
   exact ⟨fun f _ => hF.fn f, h _ rfl z (.inl (Below.refl _ _)) (fun _ => Below.refl _ _) trivial⟩
theorem GivesT.keeps {i : Nat} {o : Oper} {sp : MSpec} {a : Act} (hy : GivesT P ops C0 C1 T f mk dep i o sp a) (hk : ∀ i sp, mk i = some sp → KeepsT ops T f i sp) : KeepsT ops T f i sp := by
 rcases hy with ⟨_, h, _⟩ | ⟨_, _, u, rfl, _⟩ | ⟨_, rfl⟩
 · exact hk i sp h
 · exact ⟨fun _ _ _ _ _ => trivial, fun _ _ _ _ _ _ _ => trivial⟩
 · exact ⟨fun _ _ _ _ _ => trivial, fun _ _ _ _ _ _ _ => trivial⟩
theorem GivesT.spec_of {i : Nat} {o : Oper} {sp sp' : MSpec} {a : Act} (h : GivesT P ops C0 C1 T f mk dep i o sp a) (hw : mk i = some sp') : Region.wanted o (yielded ops a.tmps) = true → sp = sp' := fun hx => by
 rcases h with ⟨_, h2, _, _⟩ | ⟨_, h2, _⟩ | ⟨h2, _⟩
 · rw [hw] at h2; injection h2 with h2; exact h2.symm
 · rw [hw] at h2; cases h2
 · rw [hx] at h2; cases h2
theorem unlisted_of {listed : Array Bool} {i f : Nat} (h : (listed.setIfInBounds i true).getD f false = false) : listed.getD f false = false := by
 by_cases e : i = f
 · subst e
   by_cases h2 : i < listed.size
   · simp [h2] at h
   · simp [h2]
 · rw [getD_set_ne false e] at h
   exact h
theorem wpAnyIn_of_anyT {k : Nat} (hF : Lax F P) (hdef : ∀ (i : Nat) o, ops[i]? = some o → i < k → notDefer o = true) {X : List Nat} (hn : needBX ops k X = true) (hsel : Region.noSelect ops = true) (hfx : freeXB ops X = true) (hmx : ∀ e ∈ X, mk e = none) (hro : X = [] ∨ F.round = none) (hQ : ∀ e ∈ X, ∀ (o : Oper) (v : Value) c a w, ops[e]? = some o → Q (.panic c) (a.put o.dst v) w → Q (.panic c) a w) (hk : ∀ i sp, mk i = some sp → KeepsT ops T f i sp) (hT : Turns C0 C1 T) {ds : List Nat} (hdp : depB ops k ds dep = true) : ∀ (fuel : Nat) (listed : Array Bool) (a : Act) (Φ : World → Prop) (z : Wl C1), (listed.getD f false = false → C0 z.val) → Down .any ops listed → listed.size = ops.size → BndE ops ds a → FactsE ops mk ds listed a z.val → ((∀ z z', Φ z → Below z.heap.size z z' → Φ z') ∧ (listed.getD f false = false → ∀ z z', Φ z → T z z' → Φ z')) → Φ z.val →
 anyT P .any ops C0 C1 T f mk dep (fun fuel listed a Φ => ∀ z : Wl C1, Φ z.val → wpAnyIn F n P .any ops Q fuel listed a z.val) k fuel listed a Φ → wpAnyIn F n P .any ops Q fuel listed a z.val
 | 0, _, _, _, z, _, _, _, _, _, _, hz, h => h.2 z hz
 | fuel + 1, listed, a, Φ, z, hz0, hd, hls, hbn, hfa, hΦ, hz, h => by
  have hd' := hd
  cases hu : upToB k listed with
  | true => exact h.1 hu z hz
  | false =>
   obtain ⟨hne, hall⟩ := h.2 hu
   by_cases hx : ∃ e ∈ X, e ∈ Region.ready .any ops listed
   · obtain ⟨e, heX, her⟩ := hx
     obtain ⟨hek, o, ho, _⟩ := needBX_pure hn heX
     obtain ⟨hpu, hap⟩ := freeXB_spec hfx heX ho
     have hroF : F.round = none := by
      rcases hro with h | h
      · rw [h] at heX; cases heX
      · exact h
     have h1 := hall e her hek
     unfold tOp at h1
     simp only [ho] at h1
     obtain ⟨sp, hy, hK⟩ := h1
     have hil : e < listed.size := by rw [hls]; exact (Array.getElem?_eq_some_iff.1 ho).1
     have hwd : Region.wanted o (yielded ops a.tmps) = true := by
      simp only [pureOp, Bool.and_eq_true, Option.isNone_iff_eq_none] at hpu
      simp [Region.wanted, hpu.1]
     rcases hy with ⟨_, h2, _⟩ | ⟨_, _, u, rfl, h4⟩ | ⟨h2, _⟩
     · rw [hmx e heX] at h2; cases h2
     · refine wpAnyIn_first hroF ho (Region.noSelect_spec hsel) (fun c a w => hQ e heX o u c a w ho) fuel listed a z.val (fun j oj hj hne hun hno => ?_) her (pure_yields hpu (h4 z)) ?_
       · rcases hap j oj hj hne with h5 | h5 | h5
         · obtain ⟨d, hd1, hd2, hd3⟩ := waits_of_edge hj h5
           exact absurd hd3 (hno d hd1 hd2)
         · have h6 := waits_ready h5 her
           have h7 : j < listed.size := by rw [hls]; exact (Array.getElem?_eq_some_iff.1 hj).1
           simp [h7] at h6 hun
           rw [h6] at hun
           cases hun
         · exact h5
       · exact wpAnyIn_of_anyT hF hdef hn hsel hfx hmx hro hQ hk hT hdp fuel _ _ _ z (fun e1 => hz0 (unlisted_of e1)) (hd.set her) (by simpa using hls) (fun p hp o' t ho' ht => by
          have h5 := hbn p hp o' t ho' ht
          cases hdst : o.dst with
          | none => exact h5
          | some d => simp only [Act.put, Array.size_setIfInBounds]; exact h5) (facts_putT hd (ready_unlisted her) hdp hek ho hil hbn hfa hk (.inl (Below.refl _ _)) (fun sp' hsp => by rw [hmx e heX] at hsp; cases hsp)) ⟨fun x y hx hxy => ⟨hΦ.1 x y hx.1 hxy, trivial⟩, fun e1 x y hx hxy => ⟨hΦ.2 (unlisted_of e1) x y hx.1 hxy, trivial⟩⟩ ⟨hz, trivial⟩ (hK u rfl)
     · rw [hwd] at h2; cases h2
   · refine ⟨fun e => absurd e hne, fun i hi => ?_⟩
     have hik : i < k := by
      rcases Nat.lt_or_ge i k with h1 | h1
      · exact h1
      · have hall2 : upToB k listed = true := upToB_spec.2 (fun q hq => by
         by_cases hqX : q ∈ X
         · obtain ⟨_, oq, hoq, hedges⟩ := needBX_pure hn hqX
           by_cases hql : listed.getD q false = true
           · exact hql
           · exfalso
             refine hx ⟨q, hqX, mem_ready.2 ⟨?_, oq, hoq, fun d hd hb => ?_⟩⟩
             · have h7 : q < listed.size := by rw [hls]; exact (Array.getElem?_eq_some_iff.1 hoq).1
               simp [h7] at hql ⊢
               exact hql
             · obtain ⟨h8, h9⟩ := hedges d hd hb
               exact needBX_spec hn hd' hi h1 _ h8 h9
         · exact needBX_spec hn hd' hi h1 q hq hqX)
        rw [hall2] at hu
        cases hu
     obtain ⟨_, o, ho, _⟩ := mem_ready.1 hi
     have h1 := hall i hi hik
     unfold tOp at h1
     simp only [ho] at h1
     obtain ⟨sp, hy, hK⟩ := h1
     have hks := hy.keeps hk
     have hil : i < listed.size := by rw [hls]; exact (Array.getElem?_eq_some_iff.1 ho).1
     have hpre : PreE ops mk dep i a z.val := fun p hp sp' hsp o' t ho' ht => by
      have hm := (depB_spec hdp).1 i hik p hp o' t o ho' ht ho
      exact hfa p hm.1 (waits_ready_any hm.2.1 hi) sp' hsp o' t ho' ht
     refine wpOpIn_of_givesT hF hT ho (hdef i o ho hik) z (fun e1 => hz0 (by rw [← e1]; exact ready_unlisted hi)) hy hpre (fun v hv z' hz' hzb hS => ?_)
     have hset : ∀ e1 : (listed.setIfInBounds i true).getD f false = false, i ≠ f := fun e1 e2 => by subst e2; simp [hil] at e1
     exact wpAnyIn_of_anyT hF hdef hn hsel hfx hmx hro hQ hk hT hdp fuel _ _ _ z' (fun e1 => hT.b0 _ _ (hz0 (unlisted_of e1)) (hzb (hset e1))) (hd.set hi) (by simpa using hls) (fun p hp o' t ho' ht => by
      have h5 := hbn p hp o' t ho' ht
      cases hdst : o.dst with
      | none => exact h5
      | some d => simp only [Act.put, Array.size_setIfInBounds]; exact h5) (facts_putT hd (ready_unlisted hi) hdp hik ho hil hbn hfa hk hz' (fun sp' hsp hds => by
       have e := hy.spec_of hsp (by simp [Region.wanted, (depB_spec hdp).2.2 i hds o ho])
       rw [e] at hS
       exact hS)) ⟨fun x y hx hxy => ⟨hΦ.1 x y hx.1 hxy, hks.1 v x y hx.2 hxy⟩, fun e1 x y hx hxy => ⟨hΦ.2 (unlisted_of e1) x y hx.1 hxy, hks.2 (hset e1) (aftB_ready (unlisted_of e1) hi) v x y hx.2 hxy⟩⟩ ⟨(by
       rcases hz' with h8 | ⟨h8, h9⟩
       · exact hΦ.1 _ _ hz h8
       · exact hΦ.2 (by rw [← h8]; exact ready_unlisted hi) _ _ hz h9), hS⟩ (hK v hv)
theorem wpIn_region_turn {id : Nat} {a : Act} {s : Wl C0} {l : List Oper} (k : Nat) (mk : Nat → Option MSpec) (dep : Nat → List Nat) (ds X : List Nat) (hF : Lax F P) (hk : k ≤ l.length) (hm : P.follows .mixedOrders = true) (hB : makeBX l.toArray k X = true) (hmx : ∀ e ∈ X, mk e = none) (hro : X = [] ∨ F.round = none) (hQ : ∀ e ∈ X, ∀ (o : Oper) (v : Value) c a w, l.toArray[e]? = some o → Q (.panic c) (a.put o.dst v) w → Q (.panic c) a w) (hdp : depB l.toArray k ds dep = true) (hbd : BndE l.toArray ds a) (hks : ∀ i sp, mk i = some sp → KeepsT l.toArray T f i sp) (hT : Turns C0 C1 T)
 (h : wpT P l.toArray C0 C1 T f mk dep (fun a' Φ => ∀ z : Wl C1, Φ z.val → wpListIn F n P l.toArray Q (l.drop k) a' z.val) (l.take k) 0 a (fun _ => True)) : (Code.region id l.toArray true).wpIn F n P Q a s.val := by
 simp only [makeBX, Bool.and_eq_true] at hB
 haveI : Inhabited (Wl C1) := ⟨⟨s.val, hT.sub _ s.prop⟩⟩
 obtain ⟨⟨⟨⟨hs, hn⟩, hfx⟩, hp⟩, hd⟩ := hB
 have hdown : Down .any l.toArray (Array.replicate l.toArray.size false) := fun j hj => by
  exfalso
  rcases Nat.lt_or_ge j l.length with h' | h'
  · simp [h'] at hj
  · simp [h'] at hj
 refine wpIn_region_any hm ?_
 have hlen : (l.take k).length = k := by simp; omega
 have h1 := anyT_lex (md := .any) (ops := l.toArray) (P := P) (C0 := C0) (C1 := C1) (T := T) (f := f) (mk := mk) (dep := dep) (S := fun fuel listed a Φ => ∀ z : Wl C1, Φ z.val → wpAnyIn F n P .any l.toArray Q fuel listed a z.val) (k := k) (m := l.toArray.size - k) hdp hs
  (R := fun a' Φ => ∀ z : Wl C1, Φ z.val → wpListIn F n P l.toArray Q (l.drop k) a' z.val)
  (fun a Φ Φ' hΦ hr z hz => hr z (hΦ _ hz))
  (fun listed a' Φ hu ho h0 z hz => by
   have h2 := wpAnyIn_one (F := F) (n := n) (P := P) (ops := l.toArray) (Q := Q) (md := .any) (l.drop k) k listed a' z.val (fun j => by simp) (by simpa using ho) (h0 z hz)
   simpa using h2)
  (List.range' 0 k) 0 (l.take k) (Array.replicate l.toArray.size false) a (fun _ => True) (fun _ => True) (by rw [hlen]) (by
   apply List.ext_getElem?
   intro j
   rw [List.getElem?_map, List.getElem?_map, List.getElem?_take]
   by_cases hj : j < k
   · rw [List.getElem?_range' hj, if_pos hj]
     have : j < l.length := by omega
     simp [this]
   · rw [if_neg hj, List.getElem?_eq_none (by simp; omega)]
     rfl) hdown hp (fun _ h => h) h
 rw [show (List.range' 0 k).length + (l.toArray.size - k) = l.toArray.size by simp; omega] at h1
 refine wpAnyIn_of_anyT hF (fun i o ho hi => ?_) hn hs hfx hmx hro hQ hks hT hdp _ _ _ _ ⟨s.val.drew, hT.sub _ (hT.b0 _ _ s.prop (Below.refl _ _).drew)⟩ (fun _ => hT.b0 _ _ s.prop (Below.refl _ _).drew) hdown (by simp) hbd (fun p _ hl => (by
  have hno : (Array.replicate l.toArray.size false).getD p false = false := by
   rcases Nat.lt_or_ge p l.length with h' | h'
   · simp [h']
   · simp [h']
  rw [hno] at hl
  cases hl)) ⟨fun _ _ _ _ => trivial, fun _ _ _ _ _ => trivial⟩ trivial h1
 have h2 := List.all_eq_true.1 hd o
 refine h2 ?_
 rw [List.mem_iff_getElem?]
 exact ⟨i, by rw [List.getElem?_take, if_pos hi]; simpa using ho⟩
theorem wp_region_turn {id : Nat} {a : Act} {s : Wl C0} {l : List Oper} (k : Nat) (mk : Nat → Option MSpec) (dep : Nat → List Nat) (ds X : List Nat) (hk : k ≤ l.length) (hm : P.follows .mixedOrders = true) (hB : makeBX l.toArray k X = true) (hmx : ∀ e ∈ X, mk e = none) (hQ : ∀ e ∈ X, ∀ (o : Oper) (v : Value) c a w, l.toArray[e]? = some o → Q (.panic c) (a.put o.dst v) w → Q (.panic c) a w) (hdp : depB l.toArray k ds dep = true) (hbd : BndE l.toArray ds a) (hks : ∀ i sp, mk i = some sp → KeepsT l.toArray T f i sp) (hT : Turns C0 C1 T)
 (h : wpT P l.toArray C0 C1 T f mk dep (fun a' Φ => ∀ z : Wl C1, Φ z.val → wpListIn Fence.wide 0 P l.toArray Q (l.drop k) a' z.val) (l.take k) 0 a (fun _ => True)) : (Code.region id l.toArray true).wp P Q a s.val :=
 wpIn_wide.1 (wpIn_region_turn (n := 0) k mk dep ds X (Lax.wide P) hk hm hB hmx (.inr rfl) hQ hdp hbd hks hT h)
end
end Go.Proofs.YtahhdjeclbagnaaGreatDoor
