/-
  The arguments opened: slices of fates and of operations that came in.
-/
import Derived.Test.YtfpiiehdmdmoeaaLaw
import Derived.ProofKit
import Derived.OpenShut
import Derived.ShutString
import Derived.ChangeOld
import Derived.Deep.Slices
import Derived.ChangeSame
namespace Go.Proofs.Ytfpiiehdmdmoeaa
open Go.ChangeShapes Go.WideShapes Go.ChangeAt Go.RowKit Go.Deep

theorem own : ownKnob Try.prog.godebug = none := by kernel_rfl
theorem laidOut : laidOutB Try.prog = true := by kernel_rfl

section
variable {H : Type} {enc : TypeId × Value → H} {P : Program} {w : World} {spare : Nat → Bool} {held : Bool}

theorem choose_list {α : Type} {p : Nat → α → Prop} : ∀ (n : Nat), (∀ i, i < n → ∃ a, p i a) → ∃ l : List α, l.length = n ∧ ∀ i a, l[i]? = some a → p i a
  | 0, _ => ⟨[], rfl, fun i a h => by simp at h⟩
  | n + 1, h => by
    obtain ⟨l, hl, hp⟩ := choose_list n (fun i hi => h i (by omega))
    obtain ⟨a, ha⟩ := h n (by omega)
    refine ⟨l ++ [a], by simp [hl], fun i b hb => ?_⟩
    rw [List.getElem?_append] at hb
    split at hb
    · exact hp i b hb
    · rename_i hi
      have : i = n := by
        by_cases e : i = n
        · exact e
        · rw [List.getElem?_eq_none (by simp; omega)] at hb; cases hb
      subst this
      rw [hl, Nat.sub_self] at hb
      simp at hb
      subst hb
      exact ha

theorem open_flat {α : Type} (f : α → List Value) (size : Nat) (hpos : 0 < size) (hf : ∀ a, (f a).length = size) (h1 : ∀ a, ∀ u ∈ f a, u.oneCell' = true) {t e : TypeId} (ht : P.underlying t = some (.slice e)) (hC : P.cellsOf e = size)
    (dec : ∀ n cs y, DataW.trod enc P w 0 spare held n e cs = some y → ∃ a, cs = f a) {A : Option Addr} {len cap fuel : Nat} {x : DataW H × List MemPlace} (h : DataW.trod enc P w 0 spare held fuel t [.slice A len cap] = some x) (hsp : ∀ b, spare b = true) :
    ∃ xs : List α, xs.length = len ∧ len ≤ maxLen ∧ Arg w size (.slice A len cap) len (xs.flatMap f) := by
  rcases open_slice ht h with ⟨h0, _⟩ | ⟨a, l, c, m, n, D, Pl, hcs, _, hl, hm, hmm, _, hi⟩
  · simp at h0
    obtain ⟨rfl, rfl, rfl⟩ := h0
    exact ⟨[], rfl, Nat.zero_le _, none, 0, rfl, ⟨by simp, by simp, fun h => by omega⟩, fun _ => ⟨rfl, rfl⟩⟩
  · simp at hcs
    obtain ⟨rfl, rfl, rfl⟩ := hcs
    rw [hsp] at hmm
    simp only [if_true] at hmm
    subst hmm
    rw [hC] at hi
    obtain ⟨xs, hxl, hx⟩ := choose_list (p := fun i b => ∀ j u, (f b)[j]? = some u → w.cell? (a.add (i * size + j)) = some u) len (fun i hil => by
      obtain ⟨cs', hc, ht'⟩ := hi i (by omega)
      obtain ⟨b, rfl⟩ := dec _ _ _ ht'
      obtain ⟨_, hcl, hat⟩ := World.cells?_some hc
      refine ⟨b, fun j u hu => ?_⟩
      have hj : j < size := by rw [← hf b]; exact (List.getElem?_eq_some_iff.1 hu).1
      rw [← Go.Deep.add_add, hat j hj, hu])
    refine ⟨xs, hxl, by omega, some a, _, rfl, ⟨by rw [length_flat f size hf, hxl], ?_, fun _ => ⟨a, rfl, fun j u hu => ?_⟩⟩, fun h => by cases h⟩
    · intro u hu
      obtain ⟨b, _, hb⟩ := List.mem_flatMap.1 hu
      exact h1 b u hb
    · have hj : j < xs.length * size := by rw [← length_flat f size hf xs]; exact (List.getElem?_eq_some_iff.1 hu).1
      have hd : j / size < xs.length := Nat.div_lt_of_lt_mul (by rw [Nat.mul_comm]; exact hj)
      have hr : j % size < size := Nat.mod_lt _ hpos
      have ej : j = j / size * size + j % size := by rw [Nat.mul_comm]; exact (Nat.div_add_mod j size).symm
      have hb : xs[j / size]? = some xs[j / size] := List.getElem?_eq_getElem hd
      have hg := get_flat f size hf xs (j / size) (j % size) _ hb hr
      rw [← ej, hu] at hg
      have := hx (j / size) _ hb (j % size) u hg.symm
      rw [← ej] at this
      exact this

end

section
variable {H : Type} {enc : TypeId × Value → H} {w : World} {spare : Nat → Bool} {held : Bool}
theorem cells51 : Try.prog.cellsOf 51 = 3 := by kernel_rfl
theorem cells33 : Try.prog.cellsOf 33 = 5 := by kernel_rfl
theorem cells31 : Try.prog.cellsOf 31 = 3 := by kernel_rfl
theorem cells3 : Try.prog.cellsOf 3 = 1 := by kernel_rfl
theorem cells4 : Try.prog.cellsOf 4 = 1 := by kernel_rfl
theorem cells9 : Try.prog.cellsOf 9 = 1 := by kernel_rfl

theorem dec_fate (n : Nat) (cs : List Value) (y : DataW H × List MemPlace) (h : DataW.trod enc Try.prog w 0 spare held n 51 cs = some y) : ∃ f : Fate, cs = f.cells := by
  obtain ⟨xs, m, _, _, hl, hx, hf⟩ := DataW.trod_struct Try.underlying51 h
  rw [cells51] at hl
  match cs, hl with
  | [c0, c1, c2], _ =>
    match xs, hx with
    | [y0, y1, y2], _ =>
      have h0 : DataW.trod enc Try.prog w 0 spare held m 4 (([c0, c1, c2].drop 0).take (Try.prog.cellsOf 4)) = [y0, y1, y2][0]? := hf 0 _ rfl
      have h1 : DataW.trod enc Try.prog w 0 spare held m 3 (([c0, c1, c2].drop 1).take (Try.prog.cellsOf 3)) = [y0, y1, y2][1]? := hf 1 _ rfl
      have h2 : DataW.trod enc Try.prog w 0 spare held m 3 (([c0, c1, c2].drop 2).take (Try.prog.cellsOf 3)) = [y0, y1, y2][2]? := hf 2 _ rfl
      rw [cells4] at h0
      rw [cells3] at h1 h2
      obtain ⟨b, e0, _⟩ := DataW.trod_bool Try.underlying4 h0
      obtain ⟨p, e1, _⟩ := DataW.trod_int Try.underlying3 h1
      obtain ⟨q, e2, _⟩ := DataW.trod_int Try.underlying3 h2
      simp at e0 e1 e2
      exact ⟨⟨b, p, q⟩, by rw [e0, e1, e2]; rfl⟩

theorem dec_pkt (n : Nat) (cs : List Value) (y : DataW H × List MemPlace) (h : DataW.trod enc Try.prog w 0 spare held n 31 cs = some y) : ∃ f : Pkt, cs = f.cells := by
  obtain ⟨xs, m, _, _, hl, hx, hf⟩ := DataW.trod_struct Try.underlying31 h
  rw [cells31] at hl
  match cs, hl with
  | [c0, c1, c2], _ =>
    match xs, hx with
    | [y0, y1, y2], _ =>
      have h0 : DataW.trod enc Try.prog w 0 spare held m 3 (([c0, c1, c2].drop 0).take (Try.prog.cellsOf 3)) = [y0, y1, y2][0]? := hf 0 _ rfl
      have h1 : DataW.trod enc Try.prog w 0 spare held m 3 (([c0, c1, c2].drop 1).take (Try.prog.cellsOf 3)) = [y0, y1, y2][1]? := hf 1 _ rfl
      have h2 : DataW.trod enc Try.prog w 0 spare held m 9 (([c0, c1, c2].drop 2).take (Try.prog.cellsOf 9)) = [y0, y1, y2][2]? := hf 2 _ rfl
      rw [cells3] at h0 h1
      rw [cells9] at h2
      obtain ⟨b, e0, _⟩ := DataW.trod_int Try.underlying3 h0
      obtain ⟨p, e1, _⟩ := DataW.trod_int Try.underlying3 h1
      obtain ⟨q, e2, _⟩ := DataW.trod_string Try.underlying9 h2
      simp at e0 e1 e2
      exact ⟨⟨b, p, q⟩, by rw [e0, e1, e2]; rfl⟩

theorem dec_op (n : Nat) (cs : List Value) (y : DataW H × List MemPlace) (h : DataW.trod enc Try.prog w 0 spare held n 33 cs = some y) : ∃ f : Opn, cs = f.cells := by
  obtain ⟨xs, m, _, _, hl, hx, hf⟩ := DataW.trod_struct Try.underlying33 h
  rw [cells33] at hl
  match cs, hl with
  | [c0, c1, c2, c3, c4], _ =>
    match xs, hx with
    | [y0, y1, y2], _ =>
      have h0 : DataW.trod enc Try.prog w 0 spare held m 3 (([c0, c1, c2, c3, c4].drop 0).take (Try.prog.cellsOf 3)) = [y0, y1, y2][0]? := hf 0 _ rfl
      have h1 : DataW.trod enc Try.prog w 0 spare held m 3 (([c0, c1, c2, c3, c4].drop 1).take (Try.prog.cellsOf 3)) = [y0, y1, y2][1]? := hf 1 _ rfl
      have h2 : DataW.trod enc Try.prog w 0 spare held m 31 (([c0, c1, c2, c3, c4].drop 2).take (Try.prog.cellsOf 31)) = [y0, y1, y2][2]? := hf 2 _ rfl
      rw [cells3] at h0 h1
      rw [cells31] at h2
      obtain ⟨b, e0, _⟩ := DataW.trod_int Try.underlying3 h0
      obtain ⟨p, e1, _⟩ := DataW.trod_int Try.underlying3 h1
      obtain ⟨q, e2⟩ := dec_pkt _ _ _ h2
      simp [Pkt.cells] at e0 e1 e2
      exact ⟨⟨b, p, q⟩, by rw [e0, e1, e2.1, e2.2.1, e2.2.2]; rfl⟩

theorem open_fates {v : Value} {d : DataW H} {p : List MemPlace} {r : Reach} {base : Nat} (hv : Value.okWide Try.prog w r base 22 v) (h : DataW.Trod enc Try.prog w 0 (fun _ => true) true 22 v d p) :
    ∃ fs : List Fate, fs.length ≤ maxLen ∧ Arg w 3 v fs.length (flatF fs) := by
  obtain ⟨A, len, cap, rfl⟩ := okWide_slice Try.underlying22 hv
  obtain ⟨fuel, hf⟩ := h
  obtain ⟨xs, rfl, h2, h3⟩ := open_flat Fate.cells 3 (by omega) (fun _ => rfl) (fun a u hu => one_flatF [a] u (by simpa [flatF] using hu)) Try.underlying22 cells51 dec_fate hf (fun _ => rfl)
  exact ⟨xs, h2, h3⟩
theorem open_pkt {v : Value} {d : DataW H} {p : List MemPlace} {r : Reach} {base : Nat} (hv : Value.okWide Try.prog w r base 31 v) (h : DataW.Trod enc Try.prog w 0 (fun _ => true) true 31 v d p) :
    ∃ y : Pkt, v = .agg #[.int .i64 y.frm, .int .i64 y.dst, .string y.body] := by
  obtain ⟨cs, rfl, _⟩ := okWide_struct Try.underlying31 hv
  obtain ⟨fuel, hf⟩ := h
  obtain ⟨y, hy⟩ := dec_pkt _ _ _ hf
  refine ⟨y, ?_⟩
  obtain ⟨l⟩ := cs
  simp only [Value.cells] at hy
  have e : l = y.cells := hy
  rw [e]
  rfl
theorem open_ops {v : Value} {d : DataW H} {p : List MemPlace} {r : Reach} {base : Nat} (hv : Value.okWide Try.prog w r base 23 v) (h : DataW.Trod enc Try.prog w 0 (fun _ => true) true 23 v d p) :
    ∃ l : List Opn, l.length ≤ maxLen ∧ Arg w 5 v l.length (flatO l) := by
  obtain ⟨A, len, cap, rfl⟩ := okWide_slice Try.underlying23 hv
  obtain ⟨fuel, hf⟩ := h
  obtain ⟨xs, rfl, h2, h3⟩ := open_flat Opn.cells 5 (by omega) (fun _ => rfl) (fun a u hu => by
    simp [Opn.cells] at hu
    rcases hu with rfl | rfl | rfl | rfl | rfl <;> rfl) Try.underlying23 cells33 dec_op hf (fun _ => rfl)
  exact ⟨xs, h2, h3⟩
end
end Go.Proofs.Ytfpiiehdmdmoeaa
