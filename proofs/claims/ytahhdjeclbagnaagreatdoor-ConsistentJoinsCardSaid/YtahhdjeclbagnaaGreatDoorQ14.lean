/-
  Pre
-/
import Derived.Shelf.Abstract
import Derived.Shelf.RegionOpen
import Derived.OwnWalkIn
import Derived.TacticsInMore
import Derived.LoopNIn
import Derived.LoopIn
import Derived.OrdersIn
import Derived.Test.YtahhdjeclbagnaaGreatDoorQ13
namespace Go.Proofs.YtahhdjeclbagnaaGreatDoor
open Go.RowKit
section
variable {F : Fence} {n : Nat} {P : Program} {ops : Array Oper} {md : Region.Mode} {C : World → Prop} {Q : Exit → Act → World → Prop}
structure Lax (F : Fence) (P : Program) : Prop where
 fn : ∀ f, F.fn f
 depth : F.depth = none
 calls : ∀ n f args w R, Calls P f args w R → CallsIn F n P f args w R
theorem Lax.wide (P : Program) : Lax Fence.wide P := ⟨fun _ => trivial, rfl, fun _ _ _ _ _ h => callsIn_wide.2 h⟩
theorem Lax.round (P : Program) (l : Nat) : Lax (Fence.wide.inRound l) P := ⟨fun _ => trivial, rfl, fun _ _ _ _ _ h => CallsIn.inRound l (callsIn_wide.2 h)⟩
def notDefer (o : Oper) : Bool := match o.op with | .defer _ => false | _ => true
theorem notDefer_spec {o : Oper} (h : notDefer o = true) : ∀ c, o.op ≠ .defer c := fun c e => by simp [notDefer, e] at h
theorem wpOpIn_of_quiet {i : Nat} {a : Act} {K : Act → Prop} {K' : Act → World → Prop} {w : World} (hF : Lax F P) (hd : ∀ o, ops[i]? = some o → notDefer o = true) (hC : C w) (h : ∀ a w', C w' → K a → K' a w') (hh : qOp P ops C i K a) : wpOpIn F n P ops Q i K' a w := by
 unfold qOp at hh
 unfold wpOpIn
 split
 · rename_i ho
   simp only [ho] at hh
   exact h _ _ hC hh
 · rename_i o ho
   simp only [ho] at hh
   split
   · rename_i hw
     simp only [hw, if_true] at hh
     obtain ⟨v, h1, h2⟩ := hh
     refine ⟨fun f _ => hF.fn f, ?_⟩
     rw [Oper.semAt_plain F _ _ (notDefer_spec (hd o ho))]
     have h3 := h1 w hC
     unfold Oper.quietAt at h3
     generalize (execOp a.eval o).run P w = r at *
     cases r with
     | ok x w' =>
      cases x <;> simp only [Oper.quietUpon] at h3
      case value u =>
       obtain ⟨e1, e2⟩ := h3
       subst e1 e2
       exact h _ _ hC h2
      case skip =>
       obtain ⟨e1, e2⟩ := h3
       subst e1 e2
       exact h _ _ hC h2
      case enter f args =>
       obtain ⟨e1, hc⟩ := h3
       subst e1
       refine ⟨fun e => (by rw [hF.depth] at e; cases e), (hF.calls _ _ _ _ _ hc).mono ?_⟩
       rintro e w'' ⟨rfl, hw''⟩
       exact h _ _ hw'' h2
     | halt x w' => simp only [Oper.quietUpon] at h3
   · rename_i hw
     simp only [hw] at hh
     exact ⟨fun f _ => hF.fn f, h _ _ hC hh⟩
def upToB (k : Nat) (listed : Array Bool) : Bool := (List.range k).all fun i => listed.getD i false
theorem upToB_spec {k : Nat} {listed : Array Bool} : upToB k listed = true ↔ ∀ i, i < k → listed.getD i false = true := by
 simp [upToB]
def Down (md : Region.Mode) (ops : Array Oper) (listed : Array Bool) : Prop := ∀ j, listed.getD j false = true → ∀ o, ops[j]? = some o → ∀ e ∈ o.after, Region.binds md e = true → listed.getD e.on false = true
theorem Down.set {listed : Array Bool} {j : Nat} (h : Down md ops listed) (hj : j ∈ Region.ready md ops listed) : Down md ops (listed.setIfInBounds j true) := by
 obtain ⟨h0, o, ho, hall⟩ := mem_ready.1 hj
 intro i hi o' ho' e he hb
 by_cases hij : j = i
 · subst hij
   rw [ho] at ho'
   injection ho' with ho'
   subst ho'
   exact getD_set_true (hall e he hb)
 · rw [getD_set_ne false hij] at hi
   exact getD_set_true (h i hi o' ho' e he hb)
def waitsB (md : Region.Mode) (ops : Array Oper) (j i : Nat) : Bool := match ops[j]? with | some o => o.after.any fun e => Region.binds md e && e.on == i | none => false
theorem waits_ready {i j : Nat} {listed : Array Bool} (hw : waitsB md ops j i = true) (hj : j ∈ Region.ready md ops listed) : listed.getD i false = true := by
 obtain ⟨h0, o, ho, hall⟩ := mem_ready.1 hj
 simp only [waitsB, ho] at hw
 obtain ⟨e, he, hb⟩ := Array.any_eq_true'.1 hw
 simp only [Bool.and_eq_true, beq_iff_eq] at hb
 rw [← hb.2]
 exact hall e he hb.1
theorem waits_down {i j : Nat} {listed : Array Bool} (hw : waitsB md ops j i = true) (hd : Down md ops listed) (hj : listed.getD j false = true) : listed.getD i false = true := by
 unfold waitsB at hw
 split at hw
 · rename_i o ho
   obtain ⟨e, he, hb⟩ := Array.any_eq_true'.1 hw
   simp only [Bool.and_eq_true, beq_iff_eq] at hb
   rw [← hb.2]
   exact hd j hj o ho e he hb.1
 · cases hw
def needB (md : Region.Mode) (ops : Array Oper) (k : Nat) : Bool :=
 ((List.range k).all fun i => (List.range (k + 1)).any fun j => decide (i < j) && waitsB md ops j i) && (List.range ops.size).all fun q => decide (q ≤ k) || waitsB md ops q (q - 1)
theorem needB_spec {k : Nat} (h : needB md ops k = true) {listed : Array Bool} (hd : Down md ops listed) {j : Nat} (hj : j ∈ Region.ready md ops listed) (hk : k ≤ j) : ∀ i, i < k → listed.getD i false = true := by
 simp only [needB, Bool.and_eq_true, List.all_eq_true, List.mem_range, List.any_eq_true, decide_eq_true_eq, Bool.or_eq_true] at h
 obtain ⟨h1, h2⟩ := h
 -- all that operation k waits for is listed
 have hkw : ∀ i, waitsB md ops k i = true → listed.getD i false = true := by
  by_cases e : j = k
  · subst e
    exact fun i hi => waits_ready hi hj
  · have hlt : j < ops.size := by
     obtain ⟨_, o, ho, _⟩ := mem_ready.1 hj
     exact (Array.getElem?_eq_some_iff.1 ho).1
    have hl : ∀ d, k + d + 1 = j ∨ k + d + 1 < j → listed.getD (k + d) false = true := by
     intro d
     have hx : ∀ m, ∀ d, j - (k + d) = m → (k + d + 1 = j ∨ k + d + 1 < j) → listed.getD (k + d) false = true := by
      intro m
      induction m with
      | zero => intro d hm hd2; omega
      | succ m ih =>
       intro d hm hd2
       have hq := h2 (k + d + 1) (by omega)
       have hq' : waitsB md ops (k + d + 1) (k + d) = true := by
        rcases hq with hq | hq
        · omega
        · simpa using hq
       rcases hd2 with hd2 | hd2
       · rw [hd2] at hq'
         exact waits_ready hq' hj
       · exact waits_down hq' hd (ih (d + 1) (by omega) (by omega))
     exact hx _ d rfl
    have hk0 := hl 0 (by omega)
    exact fun i hi => waits_down hi hd hk0
 have hx : ∀ m i, k - i = m → i < k → listed.getD i false = true := by
  intro m
  induction m using Nat.strongRecOn with
  | _ m ih =>
   intro i hm hi
   obtain ⟨j', hj', hij, hw⟩ := h1 i hi
   by_cases e : j' = k
   · subst e
     exact hkw i hw
   · exact waits_down hw hd (ih (k - j') (by omega) j' rfl (by omega))
 exact fun i hi => hx _ i rfl hi
def anyM (F : Fence) (n : Nat) (P : Program) (md : Region.Mode) (ops : Array Oper) (C : World → Prop) (Q : Exit → Act → World → Prop) (k : Nat) : Nat → Array Bool → Act → Prop
 | 0, listed, a => upToB k listed = true ∧ ∀ w, C w → wpAnyIn F n P md ops Q 0 listed a w
 | fuel + 1, listed, a =>
  (upToB k listed = true → ∀ w, C w → wpAnyIn F n P md ops Q (fuel + 1) listed a w) ∧
  (upToB k listed = false → Region.ready md ops listed ≠ [] ∧ ∀ i ∈ Region.ready md ops listed, qOp P ops C i (anyM F n P md ops C Q k fuel (listed.setIfInBounds i true)) a)
theorem wpAnyIn_of_anyM {k : Nat} (hF : Lax F P) (hdef : ∀ (i : Nat) o, ops[i]? = some o → i < k → notDefer o = true) (hn : needB md ops k = true) : ∀ (fuel : Nat) (listed : Array Bool) (a : Act) (w : World), Down md ops listed → C w →
 anyM F n P md ops C Q k fuel listed a → wpAnyIn F n P md ops Q fuel listed a w
 | 0, _, _, w, _, hw, h => h.2 w hw
 | fuel + 1, listed, a, w, hd, hw, h => by
  cases hu : upToB k listed with
  | true => exact h.1 hu w hw
  | false =>
   obtain ⟨hne, hall⟩ := h.2 hu
   refine ⟨fun e => absurd e hne, fun i hi => wpOpIn_of_quiet hF (fun o ho => hdef i o ho ?_) hw (fun a' w' hw' h' => wpAnyIn_of_anyM hF hdef hn fuel _ a' w' (hd.set hi) hw' h') (hall i hi)⟩
   rcases Nat.lt_or_ge i k with h1 | h1
   · exact h1
   · rw [upToB_spec.2 (needB_spec hn hd hi h1)] at hu
     cases hu
theorem anyM_first {k i : Nat} {oi : Oper} {v : Value} (hn : needB md ops k = true) (hik : i < k) (hi : ops[i]? = some oi) (hsel : ∀ (j : Nat) (o : Oper) cs b, ops[j]? = some o → o.op ≠ .select cs b) :
 ∀ (fuel : Nat) (listed : Array Bool) (a : Act), Down md ops listed →
  (∀ j oj, ops[j]? = some oj → j ≠ i → listed.getD j true = false → (∀ e ∈ oj.after, Region.binds md e = true → e.on ≠ i) → oi.apart ops oj = true) →
  i ∈ Region.ready md ops listed → YieldsIn P ops C oi v a →
  anyM F n P md ops C Q k fuel (listed.setIfInBounds i true) (a.put oi.dst v) → anyM F n P md ops C Q k (fuel + 1) listed a := by
 have hunl : ∀ listed : Array Bool, i ∈ Region.ready md ops listed → upToB k listed = false := fun listed hr => by
  cases hu : upToB k listed with
  | false => rfl
  | true =>
   have h1 := upToB_spec.1 hu i hik
   have h0 := (mem_ready.1 hr).1
   rcases Nat.lt_or_ge i listed.size with h' | h'
   · simp [h'] at h0 h1
     rw [h0] at h1
     cases h1
   · simp [Array.getElem?_eq_none h'] at h1
 -- an operation that may come up beside i is below k, and something below k is then still to come behind i
 have hside : ∀ (listed : Array Bool) (j : Nat), Down md ops listed → i ∈ Region.ready md ops listed → j ∈ Region.ready md ops listed → j ≠ i → upToB k (listed.setIfInBounds i true) = false := fun listed j hd hr hj hji => by
  cases hu : upToB k (listed.setIfInBounds i true) with
  | false => rfl
  | true =>
   have hjk : j < k := by
    rcases Nat.lt_or_ge j k with h1 | h1
    · exact h1
    · have h2 := upToB_spec.2 (needB_spec hn hd hj h1)
      rw [hunl listed hr] at h2
      cases h2
   have h1 := upToB_spec.1 hu j hjk
   rw [getD_set_ne false (Ne.symm hji)] at h1
   have h0 := (mem_ready.1 hj).1
   rcases Nat.lt_or_ge j listed.size with h' | h'
   · simp [h'] at h0 h1
     rw [h0] at h1
     cases h1
   · simp [Array.getElem?_eq_none h'] at h1
 intro fuel
 induction fuel with
 | zero =>
  intro listed a hd _ hr hy H
  refine ⟨fun hu => (by rw [hunl listed hr] at hu; cases hu), fun _ => ⟨fun e => (by rw [e] at hr; cases hr), fun j hj => ?_⟩⟩
  by_cases hji : j = i
  · subst hji; exact hy.qOp hi H
  · have h1 := hside listed j hd hr hj hji
    rw [H.1] at h1
    cases h1
 | succ fuel ih =>
  intro listed a hd hfree hr hy H
  refine ⟨fun hu => (by rw [hunl listed hr] at hu; cases hu), fun _ => ⟨fun e => (by rw [e] at hr; cases hr), fun j hj => ?_⟩⟩
  by_cases hji : j = i
  · subst hji; exact hy.qOp hi H
  · have h1 := (H.2 (hside listed j hd hr hj hji)).2 j (ready_mono hj hji)
    obtain ⟨hjun, oj, hoj, hall⟩ := mem_ready.1 hj
    have hnot : ∀ e ∈ oj.after, Region.binds md e = true → e.on ≠ i := fun e he hb heq => by
     have h1 := hall e he hb
     have h0 := (mem_ready.1 hr).1
     rw [heq] at h1
     rcases Nat.lt_or_ge i listed.size with h' | h'
     · simp [h'] at h0 h1; rw [h0] at h1; cases h1
     · simp [Array.getElem?_eq_none h'] at h1
    have h2 := qOp_put hoj (hfree j oj hoj hji hjun hnot) (fun cs b => hsel i oi cs b hi) (fun cs b => hsel j oj cs b hoj) hy h1
    have hfree' : ∀ k ok, ops[k]? = some ok → k ≠ i → (listed.setIfInBounds j true).getD k true = false →
     (∀ e ∈ ok.after, Region.binds md e = true → e.on ≠ i) → oi.apart ops ok = true := fun k ok hk hki hun hno => by
     refine hfree k ok hk hki ?_ hno
     by_cases hjk : j = k
     · subst hjk; exact hjun
     · rw [getD_set_ne true hjk] at hun; exact hun
    refine qOp_mono (fun a' h3 => ih (listed.setIfInBounds j true) a' (hd.set hj) hfree' (ready_mono hr (Ne.symm hji)) h3.1 ?_) h2
    rw [Array.setIfInBounds_comm _ _ hji]
    exact h3.2
def preFrom (md : Region.Mode) (ops : Array Oper) : Nat → Nat → Array Bool → Bool
 | 0, k, listed => upToB k listed && oneFrom (ops.size - k) k listed
 | fuel + 1, k, listed => (Region.ready md ops listed).contains k && Region.free md ops listed k && preFrom md ops fuel (k + 1) (listed.setIfInBounds k true)
where
 oneFrom : Nat → Nat → Array Bool → Bool
 | 0, _, listed => (Region.ready md ops listed).isEmpty
 | fuel + 1, k, listed => (Region.ready md ops listed == [k]) && oneFrom fuel (k + 1) (listed.setIfInBounds k true)
theorem wpAnyIn_one : ∀ (l : List Oper) (k : Nat) (listed : Array Bool) (a : Act) (w : World), (∀ j, l[j]? = ops[k + j]?) → preFrom.oneFrom md ops l.length k listed = true → wpListIn F n P ops Q l a w → wpAnyIn F n P md ops Q l.length listed a w
 | [], _, listed, a, w, _, hB, h => ⟨by simpa [preFrom.oneFrom] using hB, h⟩
 | o :: l, k, listed, a, w, hl, hB, h => by
  have h0 : ops[k]? = some o := by simpa using (hl 0).symm
  simp only [List.length_cons, preFrom.oneFrom, Bool.and_eq_true, beq_iff_eq] at hB
  obtain ⟨hr, hB'⟩ := hB
  refine ⟨fun e => (by rw [e] at hr; cases hr), fun i hi => ?_⟩
  rw [hr, List.mem_singleton] at hi
  subst hi
  have ih := fun a' w' => wpAnyIn_one l (i + 1) (listed.setIfInBounds i true) a' w' (fun j => by have := hl (j + 1); simpa [Nat.add_assoc, Nat.add_comm 1 j] using this) hB'
  refine wpOpIn_mono (fun a' w' h' => ih a' w' h') ?_
  unfold wpOpIn
  simp only [h0]
  exact h
theorem anyM_lex {K : Nat} (hF : Lax F P) (hs : Region.noSelect ops = true) (hn : needB md ops K = true) {l2 : List Oper} (hl2 : ∀ j, l2[j]? = ops[K + j]?) (hsz : l2.length = ops.size - K) : ∀ (l : List Oper) (k : Nat) (listed : Array Bool) (a : Act), k + l.length = K → (∀ j, j < l.length → l[j]? = ops[k + j]?) → Down md ops listed →
 preFrom md ops l.length k listed = true → wpQuiet P ops C (fun a' => ∀ w', C w' → wpListIn F n P ops Q l2 a' w') l a → anyM F n P md ops C Q K (l.length + l2.length) listed a
 | [], k, listed, a, hk, _, _, hB, h => by
  simp only [List.length_nil, Nat.add_zero] at hk
  subst hk
  simp only [List.length_nil, preFrom, Bool.and_eq_true] at hB
  obtain ⟨hu, hB⟩ := hB
  rw [← hsz] at hB
  have hx : ∀ w, C w → wpAnyIn F n P md ops Q l2.length listed a w := fun w hw => wpAnyIn_one l2 k listed a w hl2 hB (h w hw)
  rw [List.length_nil, Nat.zero_add]
  cases hl : l2.length with
  | zero => rw [hl] at hx; exact ⟨hu, hx⟩
  | succ m => rw [hl] at hx; exact ⟨fun _ => hx, fun e => (by rw [hu] at e; cases e)⟩
 | o :: l, k, listed, a, hk, hl, hd, hB, h => by
  have h0 : ops[k]? = some o := by simpa using (hl 0 (by simp)).symm
  simp only [List.length_cons, preFrom, Bool.and_eq_true] at hB
  obtain ⟨⟨hr, hf⟩, hB'⟩ := hB
  have hr' : k ∈ Region.ready md ops listed := by simpa using hr
  have hst : qOp P ops C k (wpQuiet P ops C (fun a' => ∀ w', C w' → wpListIn F n P ops Q l2 a' w') l) a := by unfold qOp; simp only [h0]; exact h
  obtain ⟨v, hy, hK⟩ := yieldsIn_of_qOp h0 hst
  have ih := anyM_lex hF hs hn hl2 hsz l (k + 1) (listed.setIfInBounds k true) (a.put o.dst v) (by rw [List.length_cons] at hk; omega) (fun j hj => by have := hl (j + 1) (by simp; omega); simpa [Nat.add_assoc, Nat.add_comm 1 j] using this) (hd.set hr') hB' hK
  rw [show (o :: l).length + l2.length = l.length + l2.length + 1 by simp; omega]
  exact anyM_first hn (by rw [List.length_cons] at hk; omega) h0 (Region.noSelect_spec hs) _ listed a hd (Region.free_spec h0 hf) hr' hy ih
def preB (ops : Array Oper) (k : Nat) : Bool := Region.noSelect ops && needB .any ops k && preFrom .any ops k 0 (Array.replicate ops.size false) && (ops.toList.take k).all notDefer
theorem wpIn_region_pre {id : Nat} {a : Act} {w : World} {l : List Oper} (k : Nat) (C : World → Prop) (hF : Lax F P) (hk : k ≤ l.length) (hm : P.follows .mixedOrders = true) (hB : preB l.toArray k = true) (hC : C w.drew)
 (h : wpQuiet P l.toArray C (fun a' => ∀ w', C w' → wpListIn F n P l.toArray Q (l.drop k) a' w') (l.take k) a) : (Code.region id l.toArray true).wpIn F n P Q a w := by
 simp only [preB, Bool.and_eq_true] at hB
 obtain ⟨⟨⟨hs, hn⟩, hp⟩, hd⟩ := hB
 have hdown : Down .any l.toArray (Array.replicate l.toArray.size false) := fun j hj => by
  exfalso
  rcases Nat.lt_or_ge j l.length with h' | h'
  · simp [h'] at hj
  · simp [h'] at hj
 refine wpIn_region_any hm ?_
 have h1 := anyM_lex (md := .any) (ops := l.toArray) (F := F) (n := n) (P := P) (C := C) (Q := Q) (K := k) hF hs hn (l2 := l.drop k) (fun j => by simp) (by simp) (l.take k) 0 (Array.replicate l.toArray.size false) a (by simp; omega) (fun j hj => by
  rw [List.length_take] at hj
  simp [show j < k by omega]) hdown (by simpa [Nat.min_eq_left hk] using hp) h
 rw [show (l.take k).length + (l.drop k).length = l.toArray.size by simp; omega] at h1
 refine wpAnyIn_of_anyM hF (fun i o ho hi => ?_) hn _ _ _ _ hdown hC h1
 have h2 := List.all_eq_true.1 hd o
 refine h2 ?_
 rw [List.mem_iff_getElem?]
 exact ⟨i, by rw [List.getElem?_take, if_pos hi]; simpa using ho⟩
theorem wp_region_pre {id : Nat} {a : Act} {w : World} {l : List Oper} (k : Nat) (C : World → Prop) (hk : k ≤ l.length) (hm : P.follows .mixedOrders = true) (hB : preB l.toArray k = true) (hC : C w.drew)
 (h : wpQuiet P l.toArray C (fun a' => ∀ w', C w' → wpListIn Fence.wide 0 P l.toArray Q (l.drop k) a' w') (l.take k) a) : (Code.region id l.toArray true).wp P Q a w :=
 wpIn_wide.1 (wpIn_region_pre (n := 0) k C (Lax.wide P) hk hm hB hC h)
theorem wpIn_region_preN {id : Nat} {a : Act} {w : World} {l : List Oper} (k : Nat) (hF : Lax F P) (hk : k ≤ l.length) (hm : P.follows .mixedOrders = true) (hB : preB l.toArray k = true)
 (h : wpQuiet P l.toArray (fun w' => ∃ m, w' = w.drewN m) (fun a' => ∀ w', (∃ m, w' = w.drewN m) → wpListIn F n P l.toArray Q (l.drop k) a' w') (l.take k) a) : (Code.region id l.toArray true).wpIn F n P Q a w :=
 wpIn_region_pre k _ hF hk hm hB ⟨1, rfl⟩ h
theorem wp_region_preN {id : Nat} {a : Act} {w : World} {l : List Oper} (k : Nat) (hk : k ≤ l.length) (hm : P.follows .mixedOrders = true) (hB : preB l.toArray k = true)
 (h : wpQuiet P l.toArray (fun w' => ∃ m, w' = w.drewN m) (fun a' => ∀ w', (∃ m, w' = w.drewN m) → wpListIn Fence.wide 0 P l.toArray Q (l.drop k) a' w') (l.take k) a) : (Code.region id l.toArray true).wp P Q a w :=
 wp_region_pre k _ hk hm hB ⟨1, rfl⟩ h
theorem wpIn_region_preB {id : Nat} {a : Act} {W0 : World} {s : Bl W0} {l : List Oper} (k : Nat) (hF : Lax F P) (hk : k ≤ l.length) (hm : P.follows .mixedOrders = true) (hB : preB l.toArray k = true)
 (h : wpQuiet P l.toArray (fun w' => ∃ s : Bl W0, w' = s.val) (fun a' => ∀ w', (∃ s : Bl W0, w' = s.val) → wpListIn F n P l.toArray Q (l.drop k) a' w') (l.take k) a) : (Code.region id l.toArray true).wpIn F n P Q a s.val :=
 wpIn_region_pre k _ hF hk hm hB ⟨⟨s.val.drew, s.prop.drew⟩, rfl⟩ h
theorem wp_region_preB {id : Nat} {a : Act} {W0 : World} {s : Bl W0} {l : List Oper} (k : Nat) (hk : k ≤ l.length) (hm : P.follows .mixedOrders = true) (hB : preB l.toArray k = true)
 (h : wpQuiet P l.toArray (fun w' => ∃ s : Bl W0, w' = s.val) (fun a' => ∀ w', (∃ s : Bl W0, w' = s.val) → wpListIn Fence.wide 0 P l.toArray Q (l.drop k) a' w') (l.take k) a) : (Code.region id l.toArray true).wp P Q a s.val :=
 wp_region_pre k _ hk hm hB ⟨⟨s.val.drew, s.prop.drew⟩, rfl⟩ h
end
end Go.Proofs.YtahhdjeclbagnaaGreatDoor
