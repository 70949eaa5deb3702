/-
  CsM
-/
import Derived.Maps.OwnSet
import Derived.Maps.OwnOps
import Derived.Maps.OwnIn
import Derived.Below
import Derived.Test.YtahhdjeclbagnaaGreatDoorQ11
namespace Go.Proofs.YtahhdjeclbagnaaGreatDoor
open Go.RowKit
def RM (v : Value) : Option (DataW Value × List MemPlace) := some (.held v, [])
theorem RM_inj {v : Value} {d : DataW Value} {ps : List MemPlace} (h : RM v = some (d, ps)) : d = .held v := by
 simp only [RM, Option.some.injEq, Prod.mk.injEq] at h
 exact h.1.symm
theorem ownsMap_sizeX {K : TypeId} {w : World} {b n : Nat} {D : DataW Value} (h : w.ownsMap Tryz.prog K RM b n D) : w.ownsMap Tryz.prog K RM b (Maps.size D) D := by
 obtain ⟨es, clock, hb, F, hs, rfl⟩ := h
 exact ⟨es, clock, hb, F, by simp [Maps.size, length_sorted], rfl⟩
def MapX {α : Type} (P : α → Prop) (K : TypeId) (enc : α → Lit) (w : World) (b n : Nat) (g : α → Option Value) : Prop :=
 ∃ D : DataW Value, w.ownsMap Tryz.prog K RM b (Maps.size D) D ∧ Maps.size D = n ∧ (∀ a, P a → ∀ z, D.atKey (enc a) (.held z) = .held ((g a).getD z)) ∧ (∀ a, P a → Maps.has D (enc a) = (g a).isSome) ∧ ∀ k, Maps.has D k = true → ∃ a, P a ∧ k = enc a
variable {α : Type} {P : α → Prop} {K t e : TypeId} {enc : α → Lit} {w : World} {b n : Nat} {g : α → Option Value}
theorem MapX.made (w : World) : MapX P K enc (w.alloc (.map #[] 0)) w.heap.size 0 (fun _ => none) :=
 ⟨.map [], World.ownsMap_made _ _ _ _, rfl, fun _ _ _ => rfl, fun _ _ => rfl, fun k hk => by cases hk⟩
theorem MapX.lt (h : MapX P K enc w b n g) : b < w.heap.size := by
 obtain ⟨D, ⟨es, c, hb, _⟩, _⟩ := h
 exact (Array.getElem?_eq_some_iff.1 hb).1
theorem MapX.below {w' : World} {m : Nat} (h : MapX P K enc w b n g) (hm : b < m) (hb : Below m w w') : MapX P K enc w' b n g := by
 obtain ⟨D, ⟨es, c, h1, h2, h3, h4⟩, h5⟩ := h
 exact ⟨D, ⟨es, c, by rw [hb.block b hm]; exact h1, h2, h3, h4⟩, h5⟩
theorem mapTurned_below {w' : World} {b m : Nat} (h : w.mapTurned w' b) (hm : m ≤ b) : Below m w w' := by
 have hb : b < w.heap.size := by
  obtain ⟨es, c, es', c', h1, _⟩ := h
  exact (Array.getElem?_eq_some_iff.1 h1).1
 have hg := h.grown
 exact ⟨hg.os, hg.tape, hg.output, hg.size, fun k hk => hg.block k (by omega) (fun e => by injection e with e; omega)⟩
theorem MapX.put [DecidableEq α] (inj : ∀ x y, P x → P y → enc x = enc y → x = y) (law : Maps.Keyed Tryz.prog K) (ht : Tryz.prog.underlying t = some (.map K e)) (h : MapX P K enc w b n g) (hn : n < maxLen) {a : α} (ha : P a) {key : Value} (hkey : keyOf Tryz.prog K key = some (enc a)) (val : Value) :
 ∃ w', (Instr.mapUpdate t (.map (some b)) key val).run Tryz.prog w = .ok () w' ∧ MapX P K enc w' b (if (g a).isSome then n else n + 1) (fun x => if x = a then some val else g x) ∧ w.mapTurned w' b := by
 obtain ⟨D, h1, h2, h3, h4, h5⟩ := h
 obtain ⟨w', hrun, hown, htr⟩ := h1.store (t := t) (e := e) law ht (by rw [h2]; exact hn) hkey (val := val) (d := .held val) (ps := []) rfl
 have hsame : ∀ z, (D.put (enc a) (.held val)).atKey (enc a) z = .held val := fun z => Maps.atKey_put_same h1.isMap (law.key hkey) _ _
 refine ⟨w', hrun, ⟨D.put (enc a) (.held val), ownsMap_sizeX hown, ?_, fun x px z => ?_, fun x px => ?_, fun k hk => ?_⟩, htr⟩
 · rw [Maps.size_put (h1.tidy law), h4 a ha]
   cases (g a).isSome <;> simp [h2]
 · show _ = DataW.held ((if x = a then some val else g x).getD z)
   by_cases hx : x = a
   · rw [if_pos hx, hx, hsame]; rfl
   · rw [if_neg hx, Maps.atKey_put_other (fun he => hx (inj _ _ px ha he)), h3 _ px]
 · show _ = (if x = a then some val else g x).isSome
   by_cases hx : x = a
   · rw [if_pos hx, hx, Maps.has_true_of_atKey hsame]; rfl
   · rw [if_neg hx, Maps.has_put_other (fun he => hx (inj _ _ px ha he)), h4 _ px]
 · by_cases hx : k = enc a
   · exact ⟨a, ha, hx⟩
   · rw [Maps.has_put_other hx] at hk
     exact h5 k hk
theorem MapX.len (ht : Tryz.prog.underlying t = some (.map K e)) (h : MapX P K enc w b n g) (ty : TypeId) : (Builtin.len_ #[t] ty #[.map (some b)]).run Tryz.prog w = .ok (.int .i64 (n : Nat)) w := by
 obtain ⟨D, h1, h2, _⟩ := h
 rw [← h2]
 exact h1.len (e := e) ht ty
theorem MapX.look (law : Maps.Keyed Tryz.prog K) (ht : Tryz.prog.underlying t = some (.map K e)) (h : MapX P K enc w b n g) {z : Value} (hz : (zeroValue e).run Tryz.prog w = .ok z w) {a : α} (ha : P a) {key : Value} (hkey : keyOf Tryz.prog K key = some (enc a)) :
 (Instr.lookup t (.map (some b)) key false).run Tryz.prog w = .ok ((g a).getD z) w := by
 obtain ⟨D, h1, h2, h3, h4, h5⟩ := h
 obtain ⟨v, ps, hrun, hv⟩ := h1.lookup (t := t) (e := e) law ht hz (zd := .held z) (zp := []) rfl hkey
 have h6 := RM_inj hv
 rw [h3 _ ha] at h6
 have h6 := DataW.held.inj h6
 exact h6 ▸ hrun
theorem MapX.lookOk (law : Maps.Keyed Tryz.prog K) (ht : Tryz.prog.underlying t = some (.map K e)) (h : MapX P K enc w b n g) {z : Value} (hz : (zeroValue e).run Tryz.prog w = .ok z w) {a : α} (ha : P a) {key : Value} (hkey : keyOf Tryz.prog K key = some (enc a)) :
 (Instr.lookup t (.map (some b)) key true).run Tryz.prog w = .ok (.tuple #[(g a).getD z, .bool (g a).isSome]) w := by
 obtain ⟨D, h1, h2, h3, h4, h5⟩ := h
 obtain ⟨v, ps, hrun, hv⟩ := h1.look_ok (t := t) (e := e) law ht hz (zd := .held z) (zp := []) rfl hkey
 have h6 := RM_inj hv
 rw [h3 _ ha] at h6
 have h6 := DataW.held.inj h6
 rw [h4 _ ha] at hrun; exact h6 ▸ hrun
end Go.Proofs.YtahhdjeclbagnaaGreatDoor
