/-
  Deps
-/
import Derived.Test.YtahhdjeclbagnaaGreatDoorQ16
namespace Go.Proofs.YtahhdjeclbagnaaGreatDoor
open Go.RowKit
section
variable {F : Fence} {n : Nat} {P : Program} {ops : Array Oper} {md : Region.Mode} {W0 : World} {Q : Exit → Act → World → Prop} {mk : Nat → Option MSpec} {dep : Nat → List Nat}
def PreE (ops : Array Oper) (mk : Nat → Option MSpec) (dep : Nat → List Nat) (i : Nat) (a : Act) (z : World) : Prop :=
 ∀ p ∈ dep i, ∀ sp, mk p = some sp → ∀ o t, ops[p]? = some o → o.dst = some t → sp.S (a.tmps.getD t undef) z
def FactsE (ops : Array Oper) (mk : Nat → Option MSpec) (ds : List Nat) (listed : Array Bool) (a : Act) (z : World) : Prop :=
 ∀ p ∈ ds, listed.getD p false = true → ∀ sp, mk p = some sp → ∀ o t, ops[p]? = some o → o.dst = some t → sp.S (a.tmps.getD t undef) z
def BndE (ops : Array Oper) (ds : List Nat) (a : Act) : Prop := ∀ p ∈ ds, ∀ o t, ops[p]? = some o → o.dst = some t → t < a.tmps.size
def depB (ops : Array Oper) (k : Nat) (ds : List Nat) (dep : Nat → List Nat) : Bool :=
 ((List.range k).all fun i => (dep i).all fun p => ds.contains p && waitsB .any ops i p && (match ops[p]?, ops[i]? with
  | some op, some oi => (match op.dst with | some t => (oi.looksAt ops).contains t | none => true)
  | _, _ => true)) &&
 (ds.all fun p => match ops[p]? with | some op => op.guard.isNone | none => true) &&
 ds.all fun p => (List.range k).all fun j => decide (j = p) || (match ops[p]?, ops[j]? with
  | some op, some oj => (match op.dst with | some t => decide (oj.dst ≠ some t) | none => true)
  | _, _ => true)
theorem depB_spec {k : Nat} {ds : List Nat} (h : depB ops k ds dep = true) :
 (∀ i, i < k → ∀ p ∈ dep i, ∀ op t oi, ops[p]? = some op → op.dst = some t → ops[i]? = some oi → p ∈ ds ∧ waitsB .any ops i p = true ∧ t ∈ oi.looksAt ops) ∧
 (∀ p ∈ ds, ∀ j, j < k → j ≠ p → ∀ op t oj, ops[p]? = some op → op.dst = some t → ops[j]? = some oj → oj.dst ≠ some t) ∧
 (∀ p ∈ ds, ∀ op, ops[p]? = some op → op.guard = none) := by
 simp only [depB, Bool.and_eq_true, List.all_eq_true, List.mem_range, Bool.or_eq_true, decide_eq_true_eq] at h
 obtain ⟨⟨h1, h3⟩, h2⟩ := h
 refine ⟨fun i hi p hp op t oi ho ht hoi => ?_, fun p hp j hj hne op t oj ho ht hoj => ?_, fun p hp op ho => ?_⟩
 · obtain ⟨⟨a1, a2⟩, a3⟩ := h1 i hi p hp
   rw [ho, hoi] at a3
   simp only [ht] at a3
   exact ⟨by simpa using a1, a2, by simpa using a3⟩
 · rcases h2 p hp j hj with e | e
   · exact absurd e hne
   · rw [ho, hoj] at e
     simp only [ht, decide_eq_true_eq] at e
     exact e
 · have e := h3 p hp
   rw [ho] at e
   simpa using e
theorem facts_put {i k : Nat} {ds : List Nat} {o : Oper} {a : Act} {v : Value} {z z' : World} {listed : Array Bool} (hdp : depB ops k ds dep = true) (hik : i < k) (ho : ops[i]? = some o) (hil : i < listed.size) (hbn : BndE ops ds a) (hfa : FactsE ops mk ds listed a z) (hk : ∀ i sp, mk i = some sp → sp.Keeps) (hz : Below z.heap.size z z')
 (hv : ∀ sp', mk i = some sp' → i ∈ ds → sp'.S v z') : FactsE ops mk ds (listed.setIfInBounds i true) (a.put o.dst v) z' := by
 intro p hp hl sp hsp o' t ho' ht
 by_cases e : p = i
 · subst e
   rw [ho] at ho'
   cases ho'
   have hb := hbn p hp o t ho ht
   have h1 : (a.put o.dst v).tmps.getD t undef = v := by rw [ht]; simp [Act.put, hb]
   rw [h1]
   exact hv sp hsp hp
 · rw [getD_set_ne false (fun h => e h.symm)] at hl
   have h1 : (a.put o.dst v).tmps.getD t undef = a.tmps.getD t undef := by
    have h2 := (depB_spec hdp).2.1 p hp i hik (fun h => e h.symm) o' t o ho' ht ho
    cases hd : o.dst with
    | none => rfl
    | some d =>
     have hne : d ≠ t := fun h => h2 (by rw [hd, h])
     simp [Act.put, Array.getElem?_setIfInBounds_ne hne]
   rw [h1]
   exact hk p sp hsp _ _ _ (hfa p hp hl sp hsp o' t ho' ht) hz
def needBX (ops : Array Oper) (k : Nat) (X : List Nat) : Bool :=
 ((List.range k).all fun i => X.contains i || (List.range (k + 1)).any fun j => decide (i < j) && !X.contains j && waitsB .any ops j i) && ((List.range ops.size).all fun q => decide (q ≤ k) || waitsB .any ops q (q - 1)) &&
 (X.all fun e => decide (e < k) && (match ops[e]? with | some o => o.after.all fun d => !Region.binds .any d || (decide (d.on < k) && !X.contains d.on) | none => false)) && !X.contains k
theorem needBX_spec {k : Nat} {X : List Nat} (h : needBX ops k X = true) {listed : Array Bool} (hd : Down .any ops listed) {j : Nat} (hj : j ∈ Region.ready .any ops listed) (hk : k ≤ j) : ∀ i, i < k → i ∉ X → listed.getD i false = true := by
 simp only [needBX, Bool.and_eq_true, List.all_eq_true, List.mem_range, List.any_eq_true, decide_eq_true_eq, Bool.or_eq_true, Bool.not_eq_true'] at h
 obtain ⟨⟨⟨h1, h2⟩, _⟩, _⟩ := h
 have hkw : ∀ i, waitsB .any ops k i = true → listed.getD i false = true := by
  by_cases e : j = k
  · subst e
    exact fun i hi => waits_ready hi hj
  · have hlt : j < ops.size := by
     obtain ⟨_, o, ho, _⟩ := mem_ready.1 hj
     exact (Array.getElem?_eq_some_iff.1 ho).1
    have hl : ∀ d, k + d + 1 = j ∨ k + d + 1 < j → listed.getD (k + d) false = true := by
     intro d
     have hx : ∀ m, ∀ d, j - (k + d) = m → (k + d + 1 = j ∨ k + d + 1 < j) → listed.getD (k + d) false = true := by
      intro m
      induction m with
      | zero => intro d hm hd2; omega
      | succ m ih =>
       intro d hm hd2
       have hq := h2 (k + d + 1) (by omega)
       have hq' : waitsB .any ops (k + d + 1) (k + d) = true := by
        rcases hq with hq | hq
        · omega
        · simpa using hq
       rcases hd2 with hd2 | hd2
       · rw [hd2] at hq'
         exact waits_ready hq' hj
       · exact waits_down hq' hd (ih (d + 1) (by omega) (by omega))
     exact hx _ d rfl
    have hk0 := hl 0 (by omega)
    exact fun i hi => waits_down hi hd hk0
 have hx : ∀ m i, k - i = m → i < k → i ∉ X → listed.getD i false = true := by
  intro m
  induction m using Nat.strongRecOn with
  | _ m ih =>
   intro i hm hi hiX
   rcases h1 i hi with h | ⟨j', hj', ⟨hij, hjX⟩, hw⟩
   · exact absurd (by simpa using h) hiX
   · by_cases e : j' = k
     · subst e
       exact hkw i hw
     · exact waits_down hw hd (ih (k - j') (by omega) j' rfl (by omega) (by simpa using hjX))
 exact fun i hi hiX => hx _ i rfl hi hiX
theorem needBX_pure {k : Nat} {X : List Nat} (h : needBX ops k X = true) {e : Nat} (he : e ∈ X) : e < k ∧ ∃ o, ops[e]? = some o ∧ ∀ d ∈ o.after, Region.binds .any d = true → d.on < k ∧ d.on ∉ X := by
 simp only [needBX, Bool.and_eq_true, List.all_eq_true, decide_eq_true_eq] at h
 obtain ⟨⟨⟨_, _⟩, h3⟩, _⟩ := h
 obtain ⟨a1, a2⟩ := h3 e he
 cases ho : ops[e]? with
 | none => rw [ho] at a2; cases a2
 | some o =>
  rw [ho] at a2
  simp only at a2
  refine ⟨a1, o, rfl, fun d hd hb => ?_⟩
  obtain ⟨i, hi, hid⟩ := Array.mem_iff_getElem.1 hd
  have h5 := (Array.all_eq_true.1 a2) i hi
  rw [hid] at h5
  simp only [hb, Bool.not_true, Bool.false_or, Bool.and_eq_true, decide_eq_true_eq, Bool.not_eq_true'] at h5
  exact ⟨h5.1, by simpa using h5.2⟩
def pureOp (o : Oper) : Bool := o.guard.isNone && (match o.op with | .extract _ _ => true | .move _ => true | _ => false)
theorem pure_yields {o : Oper} (h : pureOp o = true) {a : Act} {z : World} {u : Value} (hs : stillUpon z u ((execOp a.eval o).run P z)) : YieldsFenced P ops o u a := by
 simp only [pureOp, Bool.and_eq_true] at h
 obtain ⟨hg, ho⟩ := h
 have hw : Region.wanted o (yielded ops a.tmps) = true := by
  simp only [Option.isNone_iff_eq_none] at hg
  simp [Region.wanted, hg]
 cases hop : o.op <;> simp only [hop] at ho <;> try (cases ho)
 case move x =>
  refine ⟨.inl ⟨hw, fun w => ?_⟩, fun w => by simp [Oper.about, hop]⟩
  simp [execOp, hop, stillUpon] at hs ⊢
  exact hs
 rename_i x i
 refine ⟨.inl ⟨hw, fun w => ?_⟩, fun w => by simp [Oper.about, hop]⟩
 simp only [execOp, hop] at hs ⊢
 cases hv : a.eval x
 case tuple vs =>
  rw [hv] at hs
  cases hi : vs[i]? with
  | none =>
   simp [Instr.extract, hi, Result.andThen, stuck, stillUpon] at hs
  | some v =>
   simp [Instr.extract, hi, stillUpon] at hs ⊢
   exact hs
 all_goals (rw [hv] at hs; simp [Instr.extract, Result.andThen, stuck, stillUpon] at hs)
theorem waits_ready_any {i j : Nat} {listed : Array Bool} (hw : waitsB .any ops j i = true) (hj : j ∈ Region.ready .any ops listed) : listed.getD i false = true := waits_ready hw hj
def GivesE (P : Program) (ops : Array Oper) (W0 : World) (mk : Nat → Option MSpec) (dep : Nat → List Nat) (i : Nat) (o : Oper) (sp : MSpec) (a : Act) : Prop :=
 (Region.wanted o (yielded ops a.tmps) = true ∧ mk i = some sp ∧ (∃ v, sp.V v) ∧ ∀ z : Bl W0, PreE ops mk dep i a z.val → makesUpon P z.val sp ((execOp a.eval o).run P z.val)) ∨
 (Region.wanted o (yielded ops a.tmps) = true ∧ mk i = none ∧ ∃ u, sp = one u ∧ ∀ z : Bl W0, stillUpon z.val u ((execOp a.eval o).run P z.val)) ∨
 (Region.wanted o (yielded ops a.tmps) = false ∧ sp = one undef)
theorem GivesE.unique {i : Nat} {o : Oper} {sp sp' : MSpec} {a : Act} (h : GivesE P ops W0 mk dep i o sp a) (h' : GivesE P ops W0 mk dep i o sp' a) : sp = sp' := by
 rcases h with ⟨h1, h2, _, _⟩ | ⟨h1, h2, u, rfl, h4⟩ | ⟨h1, rfl⟩
 · rcases h' with ⟨_, h3, _, _⟩ | ⟨_, h3, _⟩ | ⟨h3, _⟩
   · rw [h2] at h3; injection h3
   · rw [h2] at h3; cases h3
   · rw [h1] at h3; cases h3
 · rcases h' with ⟨_, h3, _⟩ | ⟨_, h3, v, rfl, h5⟩ | ⟨h3, _⟩
   · rw [h2] at h3; cases h3
   · rw [stillUpon_unique (h4 default) (h5 default)]
   · rw [h1] at h3; cases h3
 · rcases h' with ⟨h3, _⟩ | ⟨h3, _⟩ | ⟨_, h4⟩
   · rw [h1] at h3; cases h3
   · rw [h1] at h3; cases h3
   · exact h4.symm
theorem GivesE.ex {i : Nat} {o : Oper} {sp : MSpec} {a : Act} (h : GivesE P ops W0 mk dep i o sp a) : ∃ v, sp.V v := by
 rcases h with ⟨_, _, h3, _⟩ | ⟨_, _, u, rfl, _⟩ | ⟨_, rfl⟩
 · exact h3
 · exact ⟨u, rfl⟩
 · exact ⟨undef, rfl⟩
theorem GivesE.of_same {i : Nat} {o : Oper} {sp : MSpec} {a a' : Act} (hy : GivesE P ops W0 mk dep i o sp a) (he : execOp a'.eval o = execOp a.eval o) (hw : Region.wanted o (yielded ops a'.tmps) = Region.wanted o (yielded ops a.tmps)) (hp : ∀ z, PreE ops mk dep i a' z → PreE ops mk dep i a z) : GivesE P ops W0 mk dep i o sp a' := by
 unfold GivesE at *
 rw [he, hw]
 rcases hy with ⟨h1, h2, h3, h4⟩ | h
 · exact .inl ⟨h1, h2, h3, fun z hz => h4 z (hp _ hz)⟩
 · exact .inr h
theorem pre_put {i : Nat} {oi : Oper} {a : Act} {dst : Option Tmp} {v : Value} {k : Nat} {ds : List Nat} (hB : depB ops k ds dep = true) (hi : ops[i]? = some oi) (hik : i < k) (h1 : ∀ d, dst = some d → d ∉ oi.looksAt ops) (z : World) : PreE ops mk dep i (a.put dst v) z ↔ PreE ops mk dep i a z := by
 have key : ∀ p ∈ dep i, ∀ o t, ops[p]? = some o → o.dst = some t → (a.put dst v).tmps.getD t undef = a.tmps.getD t undef := fun p hp o t ho ht => by
  have hm := (depB_spec hB).1 i hik p hp o t oi ho ht hi
  cases dst with
  | none => rfl
  | some d =>
   have hne : d ≠ t := fun e => h1 d rfl (e ▸ hm.2.2)
   simp [Act.put, Array.getElem?_setIfInBounds_ne hne]
 constructor
 · intro h p hp sp hsp o t ho ht
   have h2 := h p hp sp hsp o t ho ht
   rw [key p hp o t ho ht] at h2
   exact h2
 · intro h p hp sp hsp o t ho ht
   rw [key p hp o t ho ht]
   exact h p hp sp hsp o t ho ht
def eOp (P : Program) (ops : Array Oper) (W0 : World) (mk : Nat → Option MSpec) (dep : Nat → List Nat) (i : Nat) (K : Act → (World → Prop) → Prop) (a : Act) (Φ : World → Prop) : Prop :=
 match ops[i]? with
 | none => K a Φ
 | some o => ∃ sp, GivesE P ops W0 mk dep i o sp a ∧ ∀ v, sp.V v → K (a.put o.dst v) (fun z => Φ z ∧ sp.S v z)
theorem eOp_mono {i : Nat} {a : Act} {Φ : World → Prop} {K K' : Act → (World → Prop) → Prop} (h : ∀ a Φ, K a Φ → K' a Φ) (hh : eOp P ops W0 mk dep i K a Φ) : eOp P ops W0 mk dep i K' a Φ := by
 unfold eOp at *
 split
 · exact h _ _ (by simpa [*] using hh)
 · rename_i o ho
   simp only [ho] at hh
   obtain ⟨sp, h1, h2⟩ := hh
   exact ⟨sp, h1, fun v hv => h _ _ (h2 v hv)⟩
theorem GivesE.eOp {i : Nat} {o : Oper} {sp : MSpec} {a : Act} {Φ : World → Prop} (hi : ops[i]? = some o) (hy : GivesE P ops W0 mk dep i o sp a) {K : Act → (World → Prop) → Prop} (h : ∀ v, sp.V v → K (a.put o.dst v) (fun z => Φ z ∧ sp.S v z)) : eOp P ops W0 mk dep i K a Φ := by
 unfold Go.Proofs.YtahhdjeclbagnaaGreatDoor.eOp
 simp only [hi]
 exact ⟨sp, hy, h⟩
theorem eOp_put {i j k : Nat} {ds : List Nat} {oi oj : Oper} {sp : MSpec} (hB : depB ops k ds dep = true) (hi : ops[i]? = some oi) (hik : i < k) (hjk : j < k) (hj : ops[j]? = some oj) (hap : oi.apart ops oj = true) (hsi : ∀ cs b, oi.op ≠ .select cs b) (hsj : ∀ cs b, oj.op ≠ .select cs b) {K : Act → (World → Prop) → Prop} {a : Act} {Φ : World → Prop}
 (hy : GivesE P ops W0 mk dep i oi sp a) (h : ∀ v, sp.V v → eOp P ops W0 mk dep j K (a.put oi.dst v) (fun z => Φ z ∧ sp.S v z)) :
 eOp P ops W0 mk dep j (fun a' Φ' => GivesE P ops W0 mk dep i oi sp a' ∧ ∀ v, sp.V v → K (a'.put oi.dst v) (fun z => Φ' z ∧ sp.S v z)) a Φ := by
 obtain ⟨h1, h2, h3⟩ := Oper.apart_spec hap
 have hg : ∀ v, sp.V v → ∃ sj, GivesE P ops W0 mk dep j oj sj a ∧ ∀ u, sj.V u → K ((a.put oi.dst v).put oj.dst u) (fun z => (Φ z ∧ sp.S v z) ∧ sj.S u z) := fun v hv => by
  have h4 := h v hv
  unfold eOp at h4
  simp only [hj] at h4
  obtain ⟨sj, h5, h6⟩ := h4
  exact ⟨sj, h5.of_same (execOp_put oj hsj a oi.dst v h1).symm (wanted_put oj a oi.dst v h1).symm (fun z hz => (pre_put hB hj hjk h1 z).2 hz), h6⟩
 obtain ⟨v0, hv0⟩ := hy.ex
 obtain ⟨sj, hsj0, _⟩ := hg v0 hv0
 refine hsj0.eOp hj (fun u hu => ⟨hy.of_same (execOp_put oi hsi a oj.dst u h3) (wanted_put oi a oj.dst u h3) (fun z hz => (pre_put hB hi hik h3 z).1 hz), fun v hv => ?_⟩)
 obtain ⟨sj', hs', hK⟩ := hg v hv
 obtain rfl := hs'.unique hsj0
 have hK' := hK u hu
 rw [Act.put_comm a v u h2] at hK'
 rw [show (fun z => (Φ z ∧ sj'.S u z) ∧ sp.S v z) = (fun z => (Φ z ∧ sp.S v z) ∧ sj'.S u z) from funext fun z => propext and_right_comm]
 exact hK'
def anyE (P : Program) (md : Region.Mode) (ops : Array Oper) (W0 : World) (mk : Nat → Option MSpec) (dep : Nat → List Nat) (S : Nat → Array Bool → Act → (World → Prop) → Prop) (k : Nat) : Nat → Array Bool → Act → (World → Prop) → Prop
 | 0, listed, a, Φ => upToB k listed = true ∧ S 0 listed a Φ
 | fuel + 1, listed, a, Φ =>
  (upToB k listed = true → S (fuel + 1) listed a Φ) ∧
  (upToB k listed = false → Region.ready md ops listed ≠ [] ∧ ∀ i ∈ Region.ready md ops listed, i < k → eOp P ops W0 mk dep i (anyE P md ops W0 mk dep S k fuel (listed.setIfInBounds i true)) a Φ)
theorem anyE_first {S : Nat → Array Bool → Act → (World → Prop) → Prop} {k i : Nat} {ds : List Nat} {oi : Oper} {sp : MSpec} (hB : depB ops k ds dep = true) (hik : i < k) (hi : ops[i]? = some oi) (hsel : ∀ (j : Nat) (o : Oper) cs b, ops[j]? = some o → o.op ≠ .select cs b) :
 ∀ (fuel : Nat) (listed : Array Bool) (a : Act) (Φ : World → Prop), Down md ops listed →
  (∀ j oj, ops[j]? = some oj → j ≠ i → listed.getD j true = false → (∀ e ∈ oj.after, Region.binds md e = true → e.on ≠ i) → oi.apart ops oj = true) →
  i ∈ Region.ready md ops listed → GivesE P ops W0 mk dep i oi sp a →
  (∀ v, sp.V v → anyE P md ops W0 mk dep S k fuel (listed.setIfInBounds i true) (a.put oi.dst v) (fun z => Φ z ∧ sp.S v z)) → anyE P md ops W0 mk dep S k (fuel + 1) listed a Φ := by
 intro fuel
 induction fuel with
 | zero =>
  intro listed a Φ hd _ hr hy H
  refine ⟨fun hu => (by rw [upToB_ready hik hr] at hu; cases hu), fun _ => ⟨fun e => (by rw [e] at hr; cases hr), fun j hj hjk => ?_⟩⟩
  by_cases hji : j = i
  · subst hji; exact hy.eOp hi H
  · have h1 := upToB_ready hjk (ready_mono hj hji)
    obtain ⟨v, hv⟩ := hy.ex
    rw [(H v hv).1] at h1
    cases h1
 | succ fuel ih =>
  intro listed a Φ hd hfree hr hy H
  refine ⟨fun hu => (by rw [upToB_ready hik hr] at hu; cases hu), fun _ => ⟨fun e => (by rw [e] at hr; cases hr), fun j hj hjk => ?_⟩⟩
  by_cases hji : j = i
  · subst hji; exact hy.eOp hi H
  · have h1 := fun v hv => ((H v hv).2 (upToB_ready hjk (ready_mono hj hji))).2 j (ready_mono hj hji) hjk
    obtain ⟨hjun, oj, hoj, hall⟩ := mem_ready.1 hj
    have hnot : ∀ e ∈ oj.after, Region.binds md e = true → e.on ≠ i := fun e he hb heq => by
     have h2 := hall e he hb
     rw [heq, ready_unlisted hr] at h2
     cases h2
    have h2 := eOp_put hB hi hik hjk hoj (hfree j oj hoj hji hjun hnot) (fun cs b => hsel i oi cs b hi) (fun cs b => hsel j oj cs b hoj) hy h1
    have hfree' : ∀ k ok, ops[k]? = some ok → k ≠ i → (listed.setIfInBounds j true).getD k true = false →
     (∀ e ∈ ok.after, Region.binds md e = true → e.on ≠ i) → oi.apart ops ok = true := fun k ok hk hki hun hno => by
     refine hfree k ok hk hki ?_ hno
     by_cases hjk : j = k
     · subst hjk; exact hjun
     · rw [getD_set_ne true hjk] at hun; exact hun
    refine eOp_mono (fun a' Φ' h3 => ih (listed.setIfInBounds j true) a' Φ' (hd.set hj) hfree' (ready_mono hr (Ne.symm hji)) h3.1 ?_) h2
    intro v hv
    rw [Array.setIfInBounds_comm _ _ hji]
    exact h3.2 v hv
def wpE (P : Program) (ops : Array Oper) (W0 : World) (mk : Nat → Option MSpec) (dep : Nat → List Nat) (R : Act → (World → Prop) → Prop) : List Oper → Nat → Act → (World → Prop) → Prop
 | [], _, a, Φ => R a Φ
 | o :: rest, i, a, Φ =>
  if Region.wanted o (yielded ops a.tmps) then
   (match mk i with
    | some sp => ((∃ v, sp.V v) ∧ ∀ z : Bl W0, PreE ops mk dep i a z.val → makesUpon P z.val sp ((execOp a.eval o).run P z.val)) ∧ ∀ v, sp.V v → wpE P ops W0 mk dep R rest (i + 1) (a.put o.dst v) (fun z => Φ z ∧ sp.S v z)
    | none => stillB P o a W0 (fun a' => wpE P ops W0 mk dep R rest (i + 1) a' Φ))
  else wpE P ops W0 mk dep R rest (i + 1) (a.put o.dst undef) Φ
theorem wpE_nil {R : Act → (World → Prop) → Prop} {i : Nat} {a : Act} {Φ : World → Prop} (h : R a Φ) : wpE P ops W0 mk dep R [] i a Φ := h
theorem wpE_still {R : Act → (World → Prop) → Prop} {i : Nat} {a : Act} {Φ : World → Prop} {o : Oper} {rest : List Oper} (hmk : mk i = none)
 (h : ∀ K : Act → Prop, (∀ a, wpE P ops W0 mk dep R rest (i + 1) a Φ → K a) → if Region.wanted o (yielded ops a.tmps) then stillB P o a W0 K else K (a.put o.dst undef)) : wpE P ops W0 mk dep R (o :: rest) i a Φ := by
 have h1 := h _ (fun _ h => h)
 unfold wpE
 rw [hmk]
 exact h1
theorem wpE_make {R : Act → (World → Prop) → Prop} {i : Nat} {a : Act} {Φ : World → Prop} {o : Oper} {rest : List Oper} (sp : MSpec) (hmk : mk i = some sp) (hg : o.guard = none)
 (h0 : ∃ v, sp.V v) (h1 : ∀ z : Bl W0, PreE ops mk dep i a z.val → makesUpon P z.val sp ((execOp a.eval o).run P z.val)) (h2 : ∀ v, sp.V v → wpE P ops W0 mk dep R rest (i + 1) (a.put o.dst v) (fun z => Φ z ∧ sp.S v z)) : wpE P ops W0 mk dep R (o :: rest) i a Φ := by
 have hw : Region.wanted o (yielded ops a.tmps) = true := by simp [Region.wanted, hg]
 unfold wpE
 rw [hmk, if_pos hw]
 exact ⟨⟨h0, h1⟩, h2⟩
theorem anyE_lex {S : Nat → Array Bool → Act → (World → Prop) → Prop} {R : Act → (World → Prop) → Prop} {k m : Nat} {ds : List Nat} (hdp : depB ops k ds dep = true) (hs : Region.noSelect ops = true)
 (hR : ∀ (a : Act) (Φ Φ' : World → Prop), (∀ z, Φ' z → Φ z) → R a Φ → R a Φ')
 (hS : ∀ listed a Φ, upToB k listed = true → preFrom.oneFrom md ops (ops.size - k) k listed = true → R a Φ → S m listed a Φ) (is : List Nat) : ∀ (q : Nat) (l : List Oper) (listed : Array Bool) (a : Act) (Φ Φ' : World → Prop), is = (List.range' q l.length) → is.map (fun i => ops[i]?) = l.map some → Down md ops listed →
 preIs md ops k is listed = true → (∀ z, Φ' z → Φ z) → wpE P ops W0 mk dep R l q a Φ → anyE P md ops W0 mk dep S k (is.length + m) listed a Φ' := by
 induction is with
 | nil =>
  intro q l listed a Φ Φ' hq hl _ hB hΦ h
  obtain rfl : l = [] := by
   cases l with
   | nil => rfl
   | cons x l => simp at hl
  simp only [preIs, Bool.and_eq_true] at hB
  have h1 := hS listed a Φ' hB.1 hB.2 (hR _ _ _ hΦ h)
  rw [List.length_nil, Nat.zero_add]
  cases m with
  | zero => exact ⟨hB.1, h1⟩
  | succ m => exact ⟨fun _ => h1, fun e => (by rw [hB.1] at e; cases e)⟩
 | cons i is ih =>
  intro q l listed a Φ Φ' hq hl hd hB hΦ h
  cases l with
  | nil => simp at hl
  | cons o l =>
   simp only [List.length_cons, List.range'_succ, List.cons.injEq] at hq
   obtain ⟨rfl, hq⟩ := hq
   simp only [List.map_cons, List.cons.injEq] at hl
   obtain ⟨h0, hl⟩ := hl
   simp only [preIs, Bool.and_eq_true, decide_eq_true_eq] at hB
   obtain ⟨⟨⟨hik, hr⟩, hf⟩, hB'⟩ := hB
   have hr' : i ∈ Region.ready md ops listed := by simpa using hr
   have hst : ∃ sp, GivesE P ops W0 mk dep i o sp a ∧ ∀ v, sp.V v → ∃ Φ2 : World → Prop, (∀ z, Φ' z ∧ sp.S v z → Φ2 z) ∧ wpE P ops W0 mk dep R l (i + 1) (a.put o.dst v) Φ2 := by
    unfold wpE at h
    by_cases hw : Region.wanted o (yielded ops a.tmps) = true
    · rw [if_pos hw] at h
      cases hm : mk i with
      | none =>
       rw [hm] at h
       obtain ⟨u, h1, h2⟩ := h
       refine ⟨one u, .inr (.inl ⟨hw, hm, u, rfl, h1⟩), ?_⟩
       rintro v rfl
       exact ⟨Φ, fun z hz => hΦ z hz.1, h2⟩
      | some sp =>
       rw [hm] at h
       exact ⟨sp, .inl ⟨hw, hm, h.1.1, h.1.2⟩, fun v hv => ⟨_, fun z hz => ⟨hΦ z hz.1, hz.2⟩, h.2 v hv⟩⟩
    · rw [if_neg hw] at h
      refine ⟨one undef, .inr (.inr ⟨by simpa using hw, rfl⟩), ?_⟩
      rintro v rfl
      exact ⟨Φ, fun z hz => hΦ z hz.1, h⟩
   obtain ⟨sp, hy, hK⟩ := hst
   have ih' : ∀ v, sp.V v → anyE P md ops W0 mk dep S k (is.length + m) (listed.setIfInBounds i true) (a.put o.dst v) (fun z => Φ' z ∧ sp.S v z) := fun v hv => by
    obtain ⟨Φ2, h1, h2⟩ := hK v hv
    exact ih (i + 1) l (listed.setIfInBounds i true) (a.put o.dst v) Φ2 _ hq hl (hd.set hr') hB' h1 h2
   have h9 := anyE_first (S := S) hdp hik h0 (Region.noSelect_spec hs) _ listed a Φ' hd (Region.free_spec h0 hf) hr' hy ih'
   have e : (i :: is).length + m = is.length + m + 1 := by simp; omega
   rw [e]
   exact h9
theorem wpOpIn_of_givesE {i : Nat} {o : Oper} {sp : MSpec} {a : Act} {K' : Act → World → Prop} (hF : Lax F P) (ho : ops[i]? = some o) (hd : notDefer o = true) (z : Bl W0) (hy : GivesE P ops W0 mk dep i o sp a) (hpre : PreE ops mk dep i a z.val)
 (h : ∀ v, sp.V v → ∀ z' : Bl W0, Below z.val.heap.size z.val z'.val → sp.S v z'.val → K' (a.put o.dst v) z'.val) : wpOpIn F n P ops Q i K' a z.val := by
 unfold wpOpIn
 simp only [ho]
 rcases hy with ⟨hw, _, _, hv⟩ | ⟨hw, _, u, rfl, hv⟩ | ⟨hw, rfl⟩
 · rw [hw, if_pos rfl]
   refine ⟨fun f _ => hF.fn f, ?_⟩
   rw [Oper.semAt_plain F _ _ (notDefer_spec hd)]
   have h3 := hv z hpre
   generalize (execOp a.eval o).run P z.val = r at *
   cases r with
   | ok x w' =>
    cases x <;> simp only [makesUpon] at h3
    case value u => exact h u h3.1 ⟨w', Below.step z.prop h3.2.2⟩ h3.2.2 h3.2.1
    case enter f args =>
     obtain ⟨e1, hc⟩ := h3
     subst e1
     refine ⟨fun e => (by rw [hF.depth] at e; cases e), (hF.calls _ _ _ _ _ hc).mono ?_⟩
     rintro e w'' ⟨v, rfl, h4, h5, h6⟩
     exact h v h4 ⟨w'', Below.step z.prop h6⟩ h6 h5
   | halt x w' => simp only [makesUpon] at h3
 · rw [hw, if_pos rfl]
   refine ⟨fun f _ => hF.fn f, ?_⟩
   rw [Oper.semAt_plain F _ _ (notDefer_spec hd)]
   have h3 := hv z
   generalize (execOp a.eval o).run P z.val = r at *
   cases r with
   | ok x w' =>
    cases x <;> simp only [stillUpon] at h3
    case value u =>
     obtain ⟨e1, e2⟩ := h3
     subst e1 e2
     exact h _ rfl z (Below.refl _ _) trivial
    case skip =>
     obtain ⟨e1, e2⟩ := h3
     subst e1 e2
     exact h _ rfl z (Below.refl _ _) trivial
   | halt x w' => simp only [stillUpon] at h3
 · rw [hw, if_neg (by simp)]
   exact ⟨fun f _ => hF.fn f, h _ rfl z (Below.refl _ _) trivial⟩
theorem GivesE.keeps {i : Nat} {o : Oper} {sp : MSpec} {a : Act} (hy : GivesE P ops W0 mk dep i o sp a) (hk : ∀ i sp, mk i = some sp → sp.Keeps) : sp.Keeps := by
 rcases hy with ⟨_, h, _⟩ | ⟨_, _, u, rfl, _⟩ | ⟨_, rfl⟩
 · exact hk i sp h
 · exact fun _ _ _ _ _ => trivial
 · exact fun _ _ _ _ _ => trivial
def freeXB (ops : Array Oper) (X : List Nat) : Bool :=
 X.all fun e => (match ops[e]? with | some o => pureOp o | none => false) && (List.range ops.size).all fun j => decide (j = e) || waitsB .any ops j e || waitsB .any ops e j || (match ops[e]?, ops[j]? with | some oe, some oj => oe.apart ops oj | _, _ => true)
theorem freeXB_spec {X : List Nat} (h : freeXB ops X = true) {e : Nat} (he : e ∈ X) {o : Oper} (ho : ops[e]? = some o) : pureOp o = true ∧ ∀ j oj, ops[j]? = some oj → j ≠ e → waitsB .any ops j e = true ∨ waitsB .any ops e j = true ∨ o.apart ops oj = true := by
 simp only [freeXB, List.all_eq_true, Bool.and_eq_true, List.mem_range, Bool.or_eq_true, decide_eq_true_eq] at h
 obtain ⟨h1, h2⟩ := h e he
 rw [ho] at h1
 refine ⟨h1, fun j oj hj hne => ?_⟩
 have h3 := h2 j (Array.getElem?_eq_some_iff.1 hj).1
 rw [ho, hj] at h3
 rcases h3 with ((h3 | h3) | h3) | h3
 · exact absurd h3 hne
 · exact .inl h3
 · exact .inr (.inl h3)
 · exact .inr (.inr h3)
theorem waits_of_edge {i j : Nat} {o : Oper} (ho : ops[j]? = some o) (hw : waitsB .any ops j i = true) : ∃ e ∈ o.after, Region.binds .any e = true ∧ e.on = i := by
 simp only [waitsB, ho] at hw
 obtain ⟨e, he, hb⟩ := Array.any_eq_true'.1 hw
 simp only [Bool.and_eq_true, beq_iff_eq] at hb
 exact ⟨e, he, hb.1, hb.2⟩
theorem GivesE.spec_of {i : Nat} {o : Oper} {sp sp' : MSpec} {a : Act} (h : GivesE P ops W0 mk dep i o sp a) (hw : mk i = some sp') : Region.wanted o (yielded ops a.tmps) = true → sp = sp' := fun hx => by
 rcases h with ⟨_, h2, _, _⟩ | ⟨_, h2, _⟩ | ⟨h2, _⟩
 · rw [hw] at h2; injection h2 with h2; exact h2.symm
 · rw [hw] at h2; cases h2
 · rw [hx] at h2; cases h2
theorem wpAnyIn_of_anyE {k : Nat} (hF : Lax F P) (hdef : ∀ (i : Nat) o, ops[i]? = some o → i < k → notDefer o = true) {X : List Nat} (hn : needBX ops k X = true) (hsel : Region.noSelect ops = true) (hfx : freeXB ops X = true) (hmx : ∀ e ∈ X, mk e = none) (hro : X = [] ∨ F.round = none) (hQ : ∀ e ∈ X, ∀ (o : Oper) (v : Value) c a w, ops[e]? = some o → Q (.panic c) (a.put o.dst v) w → Q (.panic c) a w) (hk : ∀ i sp, mk i = some sp → sp.Keeps) {ds : List Nat} (hdp : depB ops k ds dep = true) : ∀ (fuel : Nat) (listed : Array Bool) (a : Act) (Φ : World → Prop) (z : Bl W0), Down .any ops listed → listed.size = ops.size → BndE ops ds a → FactsE ops mk ds listed a z.val → (∀ z z', Φ z → Below z.heap.size z z' → Φ z') → Φ z.val →
 anyE P .any ops W0 mk dep (fun fuel listed a Φ => ∀ z : Bl W0, Φ z.val → wpAnyIn F n P .any ops Q fuel listed a z.val) k fuel listed a Φ → wpAnyIn F n P .any ops Q fuel listed a z.val
 | 0, _, _, _, z, _, _, _, _, _, hz, h => h.2 z hz
 | fuel + 1, listed, a, Φ, z, hd, hls, hbn, hfa, hΦ, hz, h => by
  have hd' := hd
  cases hu : upToB k listed with
  | true => exact h.1 hu z hz
  | false =>
   obtain ⟨hne, hall⟩ := h.2 hu
   by_cases hx : ∃ e ∈ X, e ∈ Region.ready .any ops listed
   · obtain ⟨e, heX, her⟩ := hx
     obtain ⟨hek, o, ho, _⟩ := needBX_pure hn heX
     obtain ⟨hpu, hap⟩ := freeXB_spec hfx heX ho
     have hroF : F.round = none := by
      rcases hro with h | h
      · rw [h] at heX; cases heX
      · exact h
     have h1 := hall e her hek
     unfold eOp at h1
     simp only [ho] at h1
     obtain ⟨sp, hy, hK⟩ := h1
     have hil : e < listed.size := by rw [hls]; exact (Array.getElem?_eq_some_iff.1 ho).1
     have hwd : Region.wanted o (yielded ops a.tmps) = true := by
      simp only [pureOp, Bool.and_eq_true, Option.isNone_iff_eq_none] at hpu
      simp [Region.wanted, hpu.1]
     rcases hy with ⟨_, h2, _⟩ | ⟨_, _, u, rfl, h4⟩ | ⟨h2, _⟩
     · rw [hmx e heX] at h2; cases h2
     · refine wpAnyIn_first hroF ho (Region.noSelect_spec hsel) (fun c a w => hQ e heX o u c a w ho) fuel listed a z.val (fun j oj hj hne hun hno => ?_) her (pure_yields hpu (h4 z)) ?_
       · rcases hap j oj hj hne with h5 | h5 | h5
         · obtain ⟨d, hd1, hd2, hd3⟩ := waits_of_edge hj h5
           exact absurd hd3 (hno d hd1 hd2)
         · have h6 := waits_ready h5 her
           have h7 : j < listed.size := by rw [hls]; exact (Array.getElem?_eq_some_iff.1 hj).1
           simp [h7] at h6 hun
           rw [h6] at hun
           cases hun
         · exact h5
       · exact wpAnyIn_of_anyE hF hdef hn hsel hfx hmx hro hQ hk hdp fuel _ _ _ z (hd.set her) (by simpa using hls) (fun p hp o' t ho' ht => by
          have h5 := hbn p hp o' t ho' ht
          cases hdst : o.dst with
          | none => exact h5
          | some d => simp only [Act.put, Array.size_setIfInBounds]; exact h5) (facts_put hdp hek ho hil hbn hfa hk (Below.refl _ _) (fun sp' hsp => by rw [hmx e heX] at hsp; cases hsp)) (fun x y hx hxy => ⟨hΦ x y hx.1 hxy, trivial⟩) ⟨hz, trivial⟩ (hK u rfl)
     · rw [hwd] at h2; cases h2
   · refine ⟨fun e => absurd e hne, fun i hi => ?_⟩
     have hik : i < k := by
      rcases Nat.lt_or_ge i k with h1 | h1
      · exact h1
      · have hall2 : upToB k listed = true := upToB_spec.2 (fun q hq => by
         by_cases hqX : q ∈ X
         · obtain ⟨_, oq, hoq, hedges⟩ := needBX_pure hn hqX
           by_cases hql : listed.getD q false = true
           · exact hql
           · exfalso
             refine hx ⟨q, hqX, mem_ready.2 ⟨?_, oq, hoq, fun d hd hb => ?_⟩⟩
             · have h7 : q < listed.size := by rw [hls]; exact (Array.getElem?_eq_some_iff.1 hoq).1
               simp [h7] at hql ⊢
               exact hql
             · obtain ⟨h8, h9⟩ := hedges d hd hb
               exact needBX_spec hn hd' hi h1 _ h8 h9
         · exact needBX_spec hn hd' hi h1 q hq hqX)
        rw [hall2] at hu
        cases hu
     obtain ⟨_, o, ho, _⟩ := mem_ready.1 hi
     have h1 := hall i hi hik
     unfold eOp at h1
     simp only [ho] at h1
     obtain ⟨sp, hy, hK⟩ := h1
     have hks := hy.keeps hk
     have hil : i < listed.size := by rw [hls]; exact (Array.getElem?_eq_some_iff.1 ho).1
     have hpre : PreE ops mk dep i a z.val := fun p hp sp' hsp o' t ho' ht => by
      have hm := (depB_spec hdp).1 i hik p hp o' t o ho' ht ho
      exact hfa p hm.1 (waits_ready_any hm.2.1 hi) sp' hsp o' t ho' ht
     refine wpOpIn_of_givesE hF ho (hdef i o ho hik) z hy hpre (fun v hv z' hz' hS => ?_)
     exact wpAnyIn_of_anyE hF hdef hn hsel hfx hmx hro hQ hk hdp fuel _ _ _ z' (hd.set hi) (by simpa using hls) (fun p hp o' t ho' ht => by
      have h5 := hbn p hp o' t ho' ht
      cases hdst : o.dst with
      | none => exact h5
      | some d => simp only [Act.put, Array.size_setIfInBounds]; exact h5) (facts_put hdp hik ho hil hbn hfa hk hz' (fun sp' hsp hds => by
       have e := hy.spec_of hsp (by simp [Region.wanted, (depB_spec hdp).2.2 i hds o ho])
       rw [e] at hS
       exact hS)) (fun x y hx hxy => ⟨hΦ x y hx.1 hxy, hks v x y hx.2 hxy⟩) ⟨hΦ _ _ hz hz', hS⟩ (hK v hv)
def makeBX (ops : Array Oper) (k : Nat) (X : List Nat) : Bool := Region.noSelect ops && needBX ops k X && freeXB ops X && preIs .any ops k (List.range' 0 k) (Array.replicate ops.size false) && (ops.toList.take k).all notDefer
theorem wpIn_region_deps {id : Nat} {a : Act} {s : Bl W0} {l : List Oper} (k : Nat) (mk : Nat → Option MSpec) (dep : Nat → List Nat) (ds X : List Nat) (hF : Lax F P) (hk : k ≤ l.length) (hm : P.follows .mixedOrders = true) (hB : makeBX l.toArray k X = true) (hmx : ∀ e ∈ X, mk e = none) (hro : X = [] ∨ F.round = none) (hQ : ∀ e ∈ X, ∀ (o : Oper) (v : Value) c a w, l.toArray[e]? = some o → Q (.panic c) (a.put o.dst v) w → Q (.panic c) a w) (hdp : depB l.toArray k ds dep = true) (hbd : BndE l.toArray ds a) (hks : ∀ i sp, mk i = some sp → sp.Keeps)
 (h : wpE P l.toArray W0 mk dep (fun a' Φ => ∀ z : Bl W0, Φ z.val → wpListIn F n P l.toArray Q (l.drop k) a' z.val) (l.take k) 0 a (fun _ => True)) : (Code.region id l.toArray true).wpIn F n P Q a s.val := by
 simp only [makeBX, Bool.and_eq_true] at hB
 obtain ⟨⟨⟨⟨hs, hn⟩, hfx⟩, hp⟩, hd⟩ := hB
 have hdown : Down .any l.toArray (Array.replicate l.toArray.size false) := fun j hj => by
  exfalso
  rcases Nat.lt_or_ge j l.length with h' | h'
  · simp [h'] at hj
  · simp [h'] at hj
 refine wpIn_region_any hm ?_
 have hlen : (l.take k).length = k := by simp; omega
 have h1 := anyE_lex (md := .any) (ops := l.toArray) (P := P) (W0 := W0) (mk := mk) (dep := dep) (S := fun fuel listed a Φ => ∀ z : Bl W0, Φ z.val → wpAnyIn F n P .any l.toArray Q fuel listed a z.val) (k := k) (m := l.toArray.size - k) hdp hs
  (R := fun a' Φ => ∀ z : Bl W0, Φ z.val → wpListIn F n P l.toArray Q (l.drop k) a' z.val)
  (fun a Φ Φ' hΦ hr z hz => hr z (hΦ _ hz))
  (fun listed a' Φ hu ho h0 z hz => by
   have h2 := wpAnyIn_one (F := F) (n := n) (P := P) (ops := l.toArray) (Q := Q) (md := .any) (l.drop k) k listed a' z.val (fun j => by simp) (by simpa using ho) (h0 z hz)
   simpa using h2)
  (List.range' 0 k) 0 (l.take k) (Array.replicate l.toArray.size false) a (fun _ => True) (fun _ => True) (by rw [hlen]) (by
   apply List.ext_getElem?
   intro j
   rw [List.getElem?_map, List.getElem?_map, List.getElem?_take]
   by_cases hj : j < k
   · rw [List.getElem?_range' hj, if_pos hj]
     have : j < l.length := by omega
     simp [this]
   · rw [if_neg hj, List.getElem?_eq_none (by simp; omega)]
     rfl) hdown hp (fun _ h => h) h
 rw [show (List.range' 0 k).length + (l.toArray.size - k) = l.toArray.size by simp; omega] at h1
 refine wpAnyIn_of_anyE hF (fun i o ho hi => ?_) hn hs hfx hmx hro hQ hks hdp _ _ _ _ ⟨s.val.drew, s.prop.drew⟩ hdown (by simp) hbd (fun p _ hl => (by
  have hno : (Array.replicate l.toArray.size false).getD p false = false := by
   rcases Nat.lt_or_ge p l.length with h' | h'
   · simp [h']
   · simp [h']
  rw [hno] at hl
  cases hl)) (fun _ _ _ _ => trivial) trivial h1
 have h2 := List.all_eq_true.1 hd o
 refine h2 ?_
 rw [List.mem_iff_getElem?]
 exact ⟨i, by rw [List.getElem?_take, if_pos hi]; simpa using ho⟩
theorem wp_region_deps {id : Nat} {a : Act} {s : Bl W0} {l : List Oper} (k : Nat) (mk : Nat → Option MSpec) (dep : Nat → List Nat) (ds X : List Nat) (hk : k ≤ l.length) (hm : P.follows .mixedOrders = true) (hB : makeBX l.toArray k X = true) (hmx : ∀ e ∈ X, mk e = none) (hQ : ∀ e ∈ X, ∀ (o : Oper) (v : Value) c a w, l.toArray[e]? = some o → Q (.panic c) (a.put o.dst v) w → Q (.panic c) a w) (hdp : depB l.toArray k ds dep = true) (hbd : BndE l.toArray ds a) (hks : ∀ i sp, mk i = some sp → sp.Keeps)
 (h : wpE P l.toArray W0 mk dep (fun a' Φ => ∀ z : Bl W0, Φ z.val → wpListIn Fence.wide 0 P l.toArray Q (l.drop k) a' z.val) (l.take k) 0 a (fun _ => True)) : (Code.region id l.toArray true).wp P Q a s.val :=
 wpIn_wide.1 (wpIn_region_deps (n := 0) k mk dep ds X (Lax.wide P) hk hm hB hmx (.inr rfl) hQ hdp hbd hks h)
end
end Go.Proofs.YtahhdjeclbagnaaGreatDoor
