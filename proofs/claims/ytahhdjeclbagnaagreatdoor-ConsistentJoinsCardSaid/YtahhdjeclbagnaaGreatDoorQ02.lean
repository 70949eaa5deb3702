/-
  Cut
-/
import Derived.Test.YtahhdjeclbagnaaGreatDoorQ01
import Derived.Deep.DeepCutAuto
import Derived.Deep.LoopGhost
namespace Go.Proofs.YtahhdjeclbagnaaGreatDoor
open Go.RowKit
theorem cd_self (a : Bool) : a = cond a true false := by cases a <;> rfl
theorem cds : (∀ {α : Type} (a b : Bool) (x y : α), cond (a && b) x y = cond a (cond b x y) y) ∧ (∀ {α : Type} (a b : Bool) (x y : α), cond (a || b) x y = cond a x (cond b x y)) ∧ (∀ {α : Type} (a : Bool) (x y : α), cond (!a) x y = cond a y x) ∧ (∀ {α : Type} (a b c : Bool) (x y : α), cond (cond a b c) x y = cond a (cond b x y) (cond c x y)) ∧ (∀ {α : Type} (x y : α), cond true x y = x) ∧ (∀ {α : Type} (x y : α), cond false x y = y) := by
 refine ⟨?_, ?_, ?_, ?_, ?_, ?_⟩
 all_goals
  intro α
  intros
  first
   | rfl
   | (rename_i a b x y; cases a <;> rfl)
   | (rename_i a x y; cases a <;> rfl)
   | (rename_i a b c x y; cases a <;> rfl)
theorem cd_eq {α : Type} {x y : Int} {A B E : α} (h : cond (x == y) A B = E) : ((x == y) = true ∧ (x != y) = false ∧ A = E) ∨ ((x == y) = false ∧ (x != y) = true ∧ B = E) := by
 cases q : (x == y) <;> rw [q] at h
 · exact .inr ⟨rfl, by simp [bne, q], h⟩
 · exact .inl ⟨rfl, by simp [bne, q], h⟩
theorem cd_t {α : Type} {a : Bool} {A B E : α} (h : cond a A B = E) (e : a = true) : A = E := by subst e; exact h
theorem cd_f {α : Type} {a : Bool} {A B E : α} (h : cond a A B = E) (e : a = false) : B = E := by subst e; exact h
theorem cd_any {α : Type} {a : Bool} {A B E : α} (h : cond a A B = E) : (a = true ∧ A = E) ∨ (a = false ∧ B = E) := by cases a <;> simp_all
theorem lit {f : FuncId} {a : Array Value} {w : World} {b c : Bool} (h : Calls Tryz.prog f a w (RetB (.bool b) w)) (e : b = c) : Calls Tryz.prog f a w (RetB (.bool c) w) := e ▸ h
end Go.Proofs.YtahhdjeclbagnaaGreatDoor
