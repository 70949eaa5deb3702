/-
  CuO
-/
import Derived.Test.YtahhdjeclbagnaaGreatDoorQ38
import Derived.ProofKit
import Derived.OpenShut
import Derived.ShutString
import Derived.ChangeOld
import Derived.Deep.Slices
import Derived.ChangeSame
import Derived.ChangeVars
import Derived.JoinedOf
import Derived.RowKit
import Derived.RowKitTokens
import Derived.LaidLaws
import Derived.LaidHandle
import Derived.Lib.LaidTab
namespace Go.Proofs.YtahhdjeclbagnaaGreatDoor
open Go.ChangeShapes Go.WideShapes Go.ChangeAt Go.RowKit Go.Deep
set_option linter.unusedVariables false
theorem own : ownKnob Tryz.prog.godebug = none := by kernel_rfl
theorem laidOut : laidOutB Tryz.prog = true := by kernel_rfl
theorem choose_list {α : Type} {p : Nat → α → Prop} : ∀ (n : Nat), (∀ i, i < n → ∃ a, p i a) → ∃ l : List α, l.length = n ∧ ∀ i a, l[i]? = some a → p i a
 | 0, _ => ⟨[], rfl, fun i a h => by simp at h⟩
 | n + 1, h => by
  obtain ⟨l, hl, hp⟩ := choose_list n (fun i hi => h i (by omega))
  obtain ⟨a, ha⟩ := h n (by omega)
  refine ⟨l ++ [a], by simp [hl], fun i b hb => ?_⟩
  rw [List.getElem?_append] at hb
  split at hb
  · exact hp i b hb
  · rename_i hi
    have : i = n := by
     by_cases e : i = n
     · exact e
     · rw [List.getElem?_eq_none (by simp; omega)] at hb; cases hb
    subst this
    rw [hl, Nat.sub_self] at hb
    simp at hb
    subst hb
    exact ha
section
variable {H : Type} {enc : TypeId × Value → H} {P : Program} {w : World} {spare : Nat → Bool} {held : Bool}
theorem open_rows {α : Type} (f : α → List Value) (G : α → Prop) (size : Nat) (hpos : 0 < size) (hf : ∀ a, (f a).length = size) (h1 : ∀ a, ∀ u ∈ f a, u.oneCell' = true) {t e : TypeId} (ht : P.underlying t = some (.slice e)) (hC : P.cellsOf e = size)
 (dec : ∀ n cs y, DataW.trod enc P w 0 spare held n e cs = some y → ∃ a, cs = f a ∧ G a) {cs : List Value} {fuel : Nat} {x : DataW H × List MemPlace} (h : DataW.trod enc P w 0 spare held fuel t cs = some x) :
 ∃ (A : Option Addr) (c : Nat) (xs : List α), cs = [.slice A xs.length c] ∧ At w size A xs.length c (xs.flatMap f) ∧ ∀ a ∈ xs, G a := by
 rcases open_slice ht h with ⟨h0, _⟩ | ⟨a, l, c, m, n, D, Pl, hcs, _, hl, hm, hmm, _, hi⟩
 · subst h0
   exact ⟨none, 0, [], rfl, at_nilX w size, fun a ha => by cases ha⟩
 · subst hcs
   have hlm : l ≤ m := by subst hmm; split <;> omega
   rw [hC] at hi
   obtain ⟨xs, hxl, hx⟩ := choose_list (p := fun i b => (∀ j u, (f b)[j]? = some u → w.cell? (a.add (i * size + j)) = some u) ∧ G b) l (fun i hil => by
    obtain ⟨cs', hc, ht'⟩ := hi i (by omega)
    obtain ⟨b, rfl, hG⟩ := dec _ _ _ ht'
    obtain ⟨_, hcl, hat⟩ := World.cells?_some hc
    refine ⟨b, (fun j u hu => ?_), hG⟩
    have hj : j < size := by rw [← hf b]; exact (List.getElem?_eq_some_iff.1 hu).1
    rw [← Go.Deep.add_add, hat j hj, hu])
   subst hxl
   refine ⟨some a, c, xs, rfl, ⟨⟨length_flat f size hf xs, ?_, fun _ => ⟨a, rfl, fun j u hu => ?_⟩⟩, (fun h => by cases h), hl, hm⟩, fun b hb => ?_⟩
   · intro u hu
     obtain ⟨b, _, hb⟩ := List.mem_flatMap.1 hu
     exact h1 b u hb
   · have hj : j < xs.length * size := by rw [← length_flat f size hf xs]; exact (List.getElem?_eq_some_iff.1 hu).1
     have hd : j / size < xs.length := Nat.div_lt_of_lt_mul (by rw [Nat.mul_comm]; exact hj)
     have hr : j % size < size := Nat.mod_lt _ hpos
     have ej : j = j / size * size + j % size := by rw [Nat.mul_comm]; exact (Nat.div_add_mod j size).symm
     have hb : xs[j / size]? = some xs[j / size] := List.getElem?_eq_getElem hd
     have hg := get_flat f size hf xs (j / size) (j % size) _ hb hr
     rw [← ej, hu] at hg
     have := (hx (j / size) _ hb).1 (j % size) u hg.symm
     rw [← ej] at this
     exact this
   · obtain ⟨i, hi', he⟩ := List.mem_iff_getElem.1 hb
     exact (hx i b (by rw [List.getElem?_eq_getElem hi', he])).2
theorem zip_unzip {α β : Type} : ∀ xs : List (α × β), (xs.map (·.1)).zip (xs.map (·.2)) = xs
 | [] => rfl
 | x :: xs => by simp [zip_unzip xs]
end
section
variable {H : Type} {enc : TypeId × Value → H} {w : World} {spare : Nat → Bool} {held : Bool}
theorem cells3 : Tryz.prog.cellsOf 3 = 1 := by kernel_rfl
theorem cells4 : Tryz.prog.cellsOf 4 = 1 := by kernel_rfl
theorem cells9 : Tryz.prog.cellsOf 9 = 1 := by kernel_rfl
theorem cells83 : Tryz.prog.cellsOf 83 = 2 := by kernel_rfl
theorem cells85 : Tryz.prog.cellsOf 85 = 7 := by kernel_rfl
theorem cells134 : Tryz.prog.cellsOf 134 = 2 := by kernel_rfl
theorem cells137 : Tryz.prog.cellsOf 137 = 5 := by kernel_rfl
theorem cells88 : Tryz.prog.cellsOf 88 = 16 := by kernel_rfl
theorem cells22 : Tryz.prog.cellsOf 22 = 1 := by kernel_rfl
theorem cells86 : Tryz.prog.cellsOf 86 = 1 := by kernel_rfl
theorem cells23 : Tryz.prog.cellsOf 23 = 1 := by kernel_rfl
theorem cells24 : Tryz.prog.cellsOf 24 = 1 := by kernel_rfl
theorem cells25 : Tryz.prog.cellsOf 25 = 1 := by kernel_rfl
theorem cells27 : Tryz.prog.cellsOf 27 = 7 := by kernel_rfl
theorem cells50 : Tryz.prog.cellsOf 50 = 6 := by kernel_rfl
theorem cells61 : Tryz.prog.cellsOf 61 = 2 := by kernel_rfl
theorem cells34 : Tryz.prog.cellsOf 34 = 3 := by kernel_rfl
theorem cells31 : Tryz.prog.cellsOf 31 = 1 := by kernel_rfl
theorem cells32 : Tryz.prog.cellsOf 32 = 1 := by kernel_rfl
theorem cells28 : Tryz.prog.cellsOf 28 = 1 := by kernel_rfl
set_option maxRecDepth 100000 in
theorem dec_ratio (n : Nat) (cs : List Value) (y : DataW H × List MemPlace) (h : DataW.trod enc Tryz.prog w 0 spare held n 83 cs = some y) : ∃ a : KRatio, cs = a.cells := by
 obtain ⟨xs, m, _, _, hl, hx, hf⟩ := DataW.trod_struct Tryz.underlying83 h
 rw [cells83] at hl
 match cs, hl with
 | [c0, c1], _ =>
  match xs, hx with
  | [y0, y1], _ =>
   have h0 : DataW.trod enc Tryz.prog w 0 spare held m 3 (([c0,c1].drop 0).take (Tryz.prog.cellsOf 3)) = [y0, y1][0]? := hf 0 _ rfl
   rw [cells3] at h0
   obtain ⟨v0, e0, _⟩ := DataW.trod_int Tryz.underlying3 h0
   have h1 : DataW.trod enc Tryz.prog w 0 spare held m 3 (([c0,c1].drop 1).take (Tryz.prog.cellsOf 3)) = [y0, y1][1]? := hf 1 _ rfl
   rw [cells3] at h1
   obtain ⟨v1, e1, _⟩ := DataW.trod_int Tryz.underlying3 h1
   simp at e0  e1
   exact ⟨⟨v0, v1⟩, by rw [e0, e1]; rfl⟩
set_option maxRecDepth 100000 in
theorem dec_act (n : Nat) (cs : List Value) (y : DataW H × List MemPlace) (h : DataW.trod enc Tryz.prog w 0 spare held n 85 cs = some y) : ∃ a : KAct, cs = a.cells := by
 obtain ⟨xs, m, _, _, hl, hx, hf⟩ := DataW.trod_struct Tryz.underlying85 h
 rw [cells85] at hl
 match cs, hl with
 | [c0, c1, c2, c3, c4, c5, c6], _ =>
  match xs, hx with
  | [y0, y1, y2, y3, y4, y5], _ =>
   have h0 : DataW.trod enc Tryz.prog w 0 spare held m 3 (([c0,c1,c2,c3,c4,c5,c6].drop 0).take (Tryz.prog.cellsOf 3)) = [y0, y1, y2, y3, y4, y5][0]? := hf 0 _ rfl
   rw [cells3] at h0
   obtain ⟨v0, e0, _⟩ := DataW.trod_int Tryz.underlying3 h0
   have h1 : DataW.trod enc Tryz.prog w 0 spare held m 3 (([c0,c1,c2,c3,c4,c5,c6].drop 1).take (Tryz.prog.cellsOf 3)) = [y0, y1, y2, y3, y4, y5][1]? := hf 1 _ rfl
   rw [cells3] at h1
   obtain ⟨v1, e1, _⟩ := DataW.trod_int Tryz.underlying3 h1
   have h2 : DataW.trod enc Tryz.prog w 0 spare held m 3 (([c0,c1,c2,c3,c4,c5,c6].drop 2).take (Tryz.prog.cellsOf 3)) = [y0, y1, y2, y3, y4, y5][2]? := hf 2 _ rfl
   rw [cells3] at h2
   obtain ⟨v2, e2, _⟩ := DataW.trod_int Tryz.underlying3 h2
   have h3 : DataW.trod enc Tryz.prog w 0 spare held m 3 (([c0,c1,c2,c3,c4,c5,c6].drop 3).take (Tryz.prog.cellsOf 3)) = [y0, y1, y2, y3, y4, y5][3]? := hf 3 _ rfl
   rw [cells3] at h3
   obtain ⟨v3, e3, _⟩ := DataW.trod_int Tryz.underlying3 h3
   have h4 : DataW.trod enc Tryz.prog w 0 spare held m 3 (([c0,c1,c2,c3,c4,c5,c6].drop 4).take (Tryz.prog.cellsOf 3)) = [y0, y1, y2, y3, y4, y5][4]? := hf 4 _ rfl
   rw [cells3] at h4
   obtain ⟨v4, e4, _⟩ := DataW.trod_int Tryz.underlying3 h4
   have h5 : DataW.trod enc Tryz.prog w 0 spare held m 83 (([c0,c1,c2,c3,c4,c5,c6].drop 5).take (Tryz.prog.cellsOf 83)) = [y0, y1, y2, y3, y4, y5][5]? := hf 5 _ rfl
   rw [cells83] at h5
   obtain ⟨v5, e5⟩ := dec_ratio _ _ _ h5
   simp [KRatio.cells] at e0  e1  e2  e3  e4  e5
   exact ⟨⟨v0, v1, v2, v3, v4, v5⟩, by rw [e0, e1, e2, e3, e4, e5.1, e5.2]; rfl⟩
set_option maxRecDepth 100000 in
theorem dec_cond (n : Nat) (cs : List Value) (y : DataW H × List MemPlace) (h : DataW.trod enc Tryz.prog w 0 spare held n 134 cs = some y) : ∃ a : KCond, cs = a.cells := by
 obtain ⟨xs, m, _, _, hl, hx, hf⟩ := DataW.trod_struct Tryz.underlying134 h
 rw [cells134] at hl
 match cs, hl with
 | [c0, c1], _ =>
  match xs, hx with
  | [y0, y1], _ =>
   have h0 : DataW.trod enc Tryz.prog w 0 spare held m 3 (([c0,c1].drop 0).take (Tryz.prog.cellsOf 3)) = [y0, y1][0]? := hf 0 _ rfl
   rw [cells3] at h0
   obtain ⟨v0, e0, _⟩ := DataW.trod_int Tryz.underlying3 h0
   have h1 : DataW.trod enc Tryz.prog w 0 spare held m 3 (([c0,c1].drop 1).take (Tryz.prog.cellsOf 3)) = [y0, y1][1]? := hf 1 _ rfl
   rw [cells3] at h1
   obtain ⟨v1, e1, _⟩ := DataW.trod_int Tryz.underlying3 h1
   simp at e0  e1
   exact ⟨⟨v0, v1⟩, by rw [e0, e1]; rfl⟩
set_option maxRecDepth 100000 in
theorem dec_unit (n : Nat) (cs : List Value) (y : DataW H × List MemPlace) (h : DataW.trod enc Tryz.prog w 0 spare held n 137 cs = some y) : ∃ a : KUnit, cs = a.cells := by
 obtain ⟨xs, m, _, _, hl, hx, hf⟩ := DataW.trod_struct Tryz.underlying137 h
 rw [cells137] at hl
 match cs, hl with
 | [c0, c1, c2, c3, c4], _ =>
  match xs, hx with
  | [y0, y1, y2, y3], _ =>
   have h0 : DataW.trod enc Tryz.prog w 0 spare held m 9 (([c0,c1,c2,c3,c4].drop 0).take (Tryz.prog.cellsOf 9)) = [y0, y1, y2, y3][0]? := hf 0 _ rfl
   rw [cells9] at h0
   obtain ⟨v0, e0, _⟩ := DataW.trod_string Tryz.underlying9 h0
   have h1 : DataW.trod enc Tryz.prog w 0 spare held m 3 (([c0,c1,c2,c3,c4].drop 1).take (Tryz.prog.cellsOf 3)) = [y0, y1, y2, y3][1]? := hf 1 _ rfl
   rw [cells3] at h1
   obtain ⟨v1, e1, _⟩ := DataW.trod_int Tryz.underlying3 h1
   have h2 : DataW.trod enc Tryz.prog w 0 spare held m 3 (([c0,c1,c2,c3,c4].drop 2).take (Tryz.prog.cellsOf 3)) = [y0, y1, y2, y3][2]? := hf 2 _ rfl
   rw [cells3] at h2
   obtain ⟨v2, e2, _⟩ := DataW.trod_int Tryz.underlying3 h2
   have h3 : DataW.trod enc Tryz.prog w 0 spare held m 83 (([c0,c1,c2,c3,c4].drop 3).take (Tryz.prog.cellsOf 83)) = [y0, y1, y2, y3][3]? := hf 3 _ rfl
   rw [cells83] at h3
   obtain ⟨v3, e3⟩ := dec_ratio _ _ _ h3
   simp [KRatio.cells] at e0  e1  e2  e3
   exact ⟨⟨v0, v1, v2, v3⟩, by rw [e0, e1, e2, e3.1, e3.2]; rfl⟩
theorem dec_int (n : Nat) (cs : List Value) (y : DataW H × List MemPlace) (h : DataW.trod enc Tryz.prog w 0 spare held n 3 cs = some y) : ∃ a : Int, cs = [Value.int .i64 a] := by
 obtain ⟨v, e, _⟩ := DataW.trod_int Tryz.underlying3 h
 exact ⟨v, e⟩
theorem dec_bool (n : Nat) (cs : List Value) (y : DataW H × List MemPlace) (h : DataW.trod enc Tryz.prog w 0 spare held n 4 cs = some y) : ∃ a : Bool, cs = [Value.bool a] := by
 obtain ⟨v, e, _⟩ := DataW.trod_bool Tryz.underlying4 h
 exact ⟨v, e⟩
theorem ints_flat (l : List Int) : l.flatMap (fun a => [Value.int .i64 a]) = ints l := by
 induction l with
 | nil => rfl
 | cons a l ih => rw [List.flatMap_cons, ih]; rfl
theorem bools_flat (l : List Bool) : l.flatMap (fun a => [Value.bool a]) = bools l := by
 induction l with
 | nil => rfl
 | cons a l ih => rw [List.flatMap_cons, ih]; rfl
theorem rows_ints {m : Nat} {cs : List Value} {y : DataW H × List MemPlace} (h : DataW.trod enc Tryz.prog w 0 spare held m 22 cs = some y) : ∃ (A : Option Addr) (c : Nat) (xs : List Int), cs = [.slice A xs.length c] ∧ At w 1 A xs.length c (ints xs) ∧ True := by
 obtain ⟨A, c, xs, h1, h2, _⟩ := open_rows (fun a : Int => [Value.int .i64 a]) (fun _ => True) 1 (by omega) (fun _ => rfl) (fun a u hu => by
  simp only [List.mem_singleton] at hu; subst hu; rfl) Tryz.underlying22 cells3 (fun n cs y h => by obtain ⟨a, ha⟩ := dec_int n cs y h; exact ⟨a, ha, trivial⟩) h
 rw [ints_flat] at h2
 exact ⟨A, c, xs, h1, h2, trivial⟩
theorem rows_conds {m : Nat} {cs : List Value} {y : DataW H × List MemPlace} (h : DataW.trod enc Tryz.prog w 0 spare held m 86 cs = some y) : ∃ (A : Option Addr) (c : Nat) (xs : List KCond), cs = [.slice A xs.length c] ∧ At w 2 A xs.length c (xs.flatMap KCond.cells) ∧ True := by
 obtain ⟨A, c, xs, h1, h2, _⟩ := open_rows KCond.cells (fun _ => True) 2 (by omega) (fun _ => rfl) (fun a u hu => by
  simp only [KCond.cells, List.mem_cons, List.not_mem_nil, or_false] at hu; rcases hu with rfl | rfl <;> rfl) Tryz.underlying86 cells134 (fun n cs y h => by obtain ⟨a, ha⟩ := dec_cond n cs y h; exact ⟨a, ha, trivial⟩) h
 exact ⟨A, c, xs, h1, h2, trivial⟩
theorem rows_units {m : Nat} {cs : List Value} {y : DataW H × List MemPlace} (h : DataW.trod enc Tryz.prog w 0 spare held m 23 cs = some y) : ∃ (A : Option Addr) (c : Nat) (xs : List KUnit), cs = [.slice A xs.length c] ∧ At w 5 A xs.length c (xs.flatMap KUnit.cells) ∧ True := by
 obtain ⟨A, c, xs, h1, h2, _⟩ := open_rows KUnit.cells (fun _ => True) 5 (by omega) (fun _ => rfl) (fun a u hu => by
  simp only [KUnit.cells, List.mem_cons, List.not_mem_nil, or_false] at hu; rcases hu with rfl | rfl | rfl | rfl | rfl <;> rfl) Tryz.underlying23 cells137 (fun n cs y h => by obtain ⟨a, ha⟩ := dec_unit n cs y h; exact ⟨a, ha, trivial⟩) h
 exact ⟨A, c, xs, h1, h2, trivial⟩
theorem rows_acts {m : Nat} {cs : List Value} {y : DataW H × List MemPlace} (h : DataW.trod enc Tryz.prog w 0 spare held m 24 cs = some y) : ∃ (A : Option Addr) (c : Nat) (xs : List KAct), cs = [.slice A xs.length c] ∧ At w 7 A xs.length c (xs.flatMap KAct.cells) ∧ True := by
 obtain ⟨A, c, xs, h1, h2, _⟩ := open_rows KAct.cells (fun _ => True) 7 (by omega) (fun _ => rfl) (fun a u hu => by
  simp only [KAct.cells, List.mem_cons, List.not_mem_nil, or_false] at hu; rcases hu with rfl | rfl | rfl | rfl | rfl | rfl | rfl <;> rfl) Tryz.underlying24 cells85 (fun n cs y h => by obtain ⟨a, ha⟩ := dec_act n cs y h; exact ⟨a, ha, trivial⟩) h
 exact ⟨A, c, xs, h1, h2, trivial⟩
set_option maxRecDepth 100000 in
theorem dec_clause (n : Nat) (cs : List Value) (y : DataW H × List MemPlace) (h : DataW.trod enc Tryz.prog w 0 spare held n 88 cs = some y) : ∃ a : KClause × SV, cs = a.1.cells a.2 ∧ At w 2 a.2.A a.1.start.length a.2.c (a.1.start.flatMap KCond.cells) := by
 obtain ⟨xs, m, _, _, hl, hx, hf⟩ := DataW.trod_struct Tryz.underlying88 h
 rw [cells88] at hl
 match cs, hl with
 | [c0, c1, c2, c3, c4, c5, c6, c7, c8, c9, c10, c11, c12, c13, c14, c15], _ =>
  match xs, hx with
  | [y0, y1, y2, y3, y4, y5, y6, y7, y8, y9, y10, y11, y12, y13, y14], _ =>
   have h0 : DataW.trod enc Tryz.prog w 0 spare held m 3 (([c0,c1,c2,c3,c4,c5,c6,c7,c8,c9,c10,c11,c12,c13,c14,c15].drop 0).take (Tryz.prog.cellsOf 3)) = [y0, y1, y2, y3, y4, y5, y6, y7, y8, y9, y10, y11, y12, y13, y14][0]? := hf 0 _ rfl
   rw [cells3] at h0
   obtain ⟨v0, e0, _⟩ := DataW.trod_int Tryz.underlying3 h0
   have h1 : DataW.trod enc Tryz.prog w 0 spare held m 3 (([c0,c1,c2,c3,c4,c5,c6,c7,c8,c9,c10,c11,c12,c13,c14,c15].drop 1).take (Tryz.prog.cellsOf 3)) = [y0, y1, y2, y3, y4, y5, y6, y7, y8, y9, y10, y11, y12, y13, y14][1]? := hf 1 _ rfl
   rw [cells3] at h1
   obtain ⟨v1, e1, _⟩ := DataW.trod_int Tryz.underlying3 h1
   have h2 : DataW.trod enc Tryz.prog w 0 spare held m 3 (([c0,c1,c2,c3,c4,c5,c6,c7,c8,c9,c10,c11,c12,c13,c14,c15].drop 2).take (Tryz.prog.cellsOf 3)) = [y0, y1, y2, y3, y4, y5, y6, y7, y8, y9, y10, y11, y12, y13, y14][2]? := hf 2 _ rfl
   rw [cells3] at h2
   obtain ⟨v2, e2, _⟩ := DataW.trod_int Tryz.underlying3 h2
   have h3 : DataW.trod enc Tryz.prog w 0 spare held m 3 (([c0,c1,c2,c3,c4,c5,c6,c7,c8,c9,c10,c11,c12,c13,c14,c15].drop 3).take (Tryz.prog.cellsOf 3)) = [y0, y1, y2, y3, y4, y5, y6, y7, y8, y9, y10, y11, y12, y13, y14][3]? := hf 3 _ rfl
   rw [cells3] at h3
   obtain ⟨v3, e3, _⟩ := DataW.trod_int Tryz.underlying3 h3
   have h4 : DataW.trod enc Tryz.prog w 0 spare held m 86 (([c0,c1,c2,c3,c4,c5,c6,c7,c8,c9,c10,c11,c12,c13,c14,c15].drop 4).take (Tryz.prog.cellsOf 86)) = [y0, y1, y2, y3, y4, y5, y6, y7, y8, y9, y10, y11, y12, y13, y14][4]? := hf 4 _ rfl
   rw [cells86] at h4
   obtain ⟨A4, z4, v4, e4, a4, g4⟩ := rows_conds (show DataW.trod enc Tryz.prog w 0 spare held m 86 [c4] = some _ from h4)
   have h5 : DataW.trod enc Tryz.prog w 0 spare held m 3 (([c0,c1,c2,c3,c4,c5,c6,c7,c8,c9,c10,c11,c12,c13,c14,c15].drop 5).take (Tryz.prog.cellsOf 3)) = [y0, y1, y2, y3, y4, y5, y6, y7, y8, y9, y10, y11, y12, y13, y14][5]? := hf 5 _ rfl
   rw [cells3] at h5
   obtain ⟨v5, e5, _⟩ := DataW.trod_int Tryz.underlying3 h5
   have h6 : DataW.trod enc Tryz.prog w 0 spare held m 3 (([c0,c1,c2,c3,c4,c5,c6,c7,c8,c9,c10,c11,c12,c13,c14,c15].drop 6).take (Tryz.prog.cellsOf 3)) = [y0, y1, y2, y3, y4, y5, y6, y7, y8, y9, y10, y11, y12, y13, y14][6]? := hf 6 _ rfl
   rw [cells3] at h6
   obtain ⟨v6, e6, _⟩ := DataW.trod_int Tryz.underlying3 h6
   have h7 : DataW.trod enc Tryz.prog w 0 spare held m 4 (([c0,c1,c2,c3,c4,c5,c6,c7,c8,c9,c10,c11,c12,c13,c14,c15].drop 7).take (Tryz.prog.cellsOf 4)) = [y0, y1, y2, y3, y4, y5, y6, y7, y8, y9, y10, y11, y12, y13, y14][7]? := hf 7 _ rfl
   rw [cells4] at h7
   obtain ⟨v7, e7, _⟩ := DataW.trod_bool Tryz.underlying4 h7
   have h8 : DataW.trod enc Tryz.prog w 0 spare held m 4 (([c0,c1,c2,c3,c4,c5,c6,c7,c8,c9,c10,c11,c12,c13,c14,c15].drop 8).take (Tryz.prog.cellsOf 4)) = [y0, y1, y2, y3, y4, y5, y6, y7, y8, y9, y10, y11, y12, y13, y14][8]? := hf 8 _ rfl
   rw [cells4] at h8
   obtain ⟨v8, e8, _⟩ := DataW.trod_bool Tryz.underlying4 h8
   have h9 : DataW.trod enc Tryz.prog w 0 spare held m 3 (([c0,c1,c2,c3,c4,c5,c6,c7,c8,c9,c10,c11,c12,c13,c14,c15].drop 9).take (Tryz.prog.cellsOf 3)) = [y0, y1, y2, y3, y4, y5, y6, y7, y8, y9, y10, y11, y12, y13, y14][9]? := hf 9 _ rfl
   rw [cells3] at h9
   obtain ⟨v9, e9, _⟩ := DataW.trod_int Tryz.underlying3 h9
   have h10 : DataW.trod enc Tryz.prog w 0 spare held m 3 (([c0,c1,c2,c3,c4,c5,c6,c7,c8,c9,c10,c11,c12,c13,c14,c15].drop 10).take (Tryz.prog.cellsOf 3)) = [y0, y1, y2, y3, y4, y5, y6, y7, y8, y9, y10, y11, y12, y13, y14][10]? := hf 10 _ rfl
   rw [cells3] at h10
   obtain ⟨v10, e10, _⟩ := DataW.trod_int Tryz.underlying3 h10
   have h11 : DataW.trod enc Tryz.prog w 0 spare held m 83 (([c0,c1,c2,c3,c4,c5,c6,c7,c8,c9,c10,c11,c12,c13,c14,c15].drop 11).take (Tryz.prog.cellsOf 83)) = [y0, y1, y2, y3, y4, y5, y6, y7, y8, y9, y10, y11, y12, y13, y14][11]? := hf 11 _ rfl
   rw [cells83] at h11
   obtain ⟨v11, e11⟩ := dec_ratio _ _ _ h11
   have h12 : DataW.trod enc Tryz.prog w 0 spare held m 3 (([c0,c1,c2,c3,c4,c5,c6,c7,c8,c9,c10,c11,c12,c13,c14,c15].drop 13).take (Tryz.prog.cellsOf 3)) = [y0, y1, y2, y3, y4, y5, y6, y7, y8, y9, y10, y11, y12, y13, y14][12]? := hf 12 _ rfl
   rw [cells3] at h12
   obtain ⟨v12, e12, _⟩ := DataW.trod_int Tryz.underlying3 h12
   have h13 : DataW.trod enc Tryz.prog w 0 spare held m 3 (([c0,c1,c2,c3,c4,c5,c6,c7,c8,c9,c10,c11,c12,c13,c14,c15].drop 14).take (Tryz.prog.cellsOf 3)) = [y0, y1, y2, y3, y4, y5, y6, y7, y8, y9, y10, y11, y12, y13, y14][13]? := hf 13 _ rfl
   rw [cells3] at h13
   obtain ⟨v13, e13, _⟩ := DataW.trod_int Tryz.underlying3 h13
   have h14 : DataW.trod enc Tryz.prog w 0 spare held m 4 (([c0,c1,c2,c3,c4,c5,c6,c7,c8,c9,c10,c11,c12,c13,c14,c15].drop 15).take (Tryz.prog.cellsOf 4)) = [y0, y1, y2, y3, y4, y5, y6, y7, y8, y9, y10, y11, y12, y13, y14][14]? := hf 14 _ rfl
   rw [cells4] at h14
   obtain ⟨v14, e14, _⟩ := DataW.trod_bool Tryz.underlying4 h14
   simp [KRatio.cells] at e0 e1 e2 e3 e4 e5 e6 e7 e8 e9 e10 e11 e12 e13 e14
   exact ⟨(⟨v0, v1, v2, v3, v4, v5, v6, v7, v8, v9, v10, v11, v12, v13, v14⟩, ⟨A4, z4⟩), by rw [e0, e1, e2, e3, e4, e5, e6, e7, e8, e9, e10, e11.1, e11.2, e12, e13, e14]; rfl, a4⟩
set_option maxRecDepth 100000 in
theorem dec_fact (n : Nat) (cs : List Value) (y : DataW H × List MemPlace) (h : DataW.trod enc Tryz.prog w 0 spare held n 50 cs = some y) : ∃ a : KFact, cs = a.cells ∧ In64 a.ref := by
 obtain ⟨xs, m, _, _, hl, hx, hf⟩ := DataW.trod_struct Tryz.underlying50 h
 rw [cells50] at hl
 match cs, hl with
 | [c0, c1, c2, c3, c4, c5], _ =>
  match xs, hx with
  | [y0, y1, y2, y3, y4, y5], _ =>
   have h0 : DataW.trod enc Tryz.prog w 0 spare held m 3 (([c0,c1,c2,c3,c4,c5].drop 0).take (Tryz.prog.cellsOf 3)) = [y0, y1, y2, y3, y4, y5][0]? := hf 0 _ rfl
   rw [cells3] at h0
   obtain ⟨v0, e0, _, w0⟩ := DataW.trod_int Tryz.underlying3 h0
   have h1 : DataW.trod enc Tryz.prog w 0 spare held m 3 (([c0,c1,c2,c3,c4,c5].drop 1).take (Tryz.prog.cellsOf 3)) = [y0, y1, y2, y3, y4, y5][1]? := hf 1 _ rfl
   rw [cells3] at h1
   obtain ⟨v1, e1, _⟩ := DataW.trod_int Tryz.underlying3 h1
   have h2 : DataW.trod enc Tryz.prog w 0 spare held m 3 (([c0,c1,c2,c3,c4,c5].drop 2).take (Tryz.prog.cellsOf 3)) = [y0, y1, y2, y3, y4, y5][2]? := hf 2 _ rfl
   rw [cells3] at h2
   obtain ⟨v2, e2, _⟩ := DataW.trod_int Tryz.underlying3 h2
   have h3 : DataW.trod enc Tryz.prog w 0 spare held m 3 (([c0,c1,c2,c3,c4,c5].drop 3).take (Tryz.prog.cellsOf 3)) = [y0, y1, y2, y3, y4, y5][3]? := hf 3 _ rfl
   rw [cells3] at h3
   obtain ⟨v3, e3, _⟩ := DataW.trod_int Tryz.underlying3 h3
   have h4 : DataW.trod enc Tryz.prog w 0 spare held m 3 (([c0,c1,c2,c3,c4,c5].drop 4).take (Tryz.prog.cellsOf 3)) = [y0, y1, y2, y3, y4, y5][4]? := hf 4 _ rfl
   rw [cells3] at h4
   obtain ⟨v4, e4, _⟩ := DataW.trod_int Tryz.underlying3 h4
   have h5 : DataW.trod enc Tryz.prog w 0 spare held m 4 (([c0,c1,c2,c3,c4,c5].drop 5).take (Tryz.prog.cellsOf 4)) = [y0, y1, y2, y3, y4, y5][5]? := hf 5 _ rfl
   rw [cells4] at h5
   obtain ⟨v5, e5, _⟩ := DataW.trod_bool Tryz.underlying4 h5
   simp at e0 e1 e2 e3 e4 e5
   exact ⟨⟨v0, v1, v2, v3, v4, v5⟩, by rw [e0, e1, e2, e3, e4, e5]; rfl, w0⟩
set_option maxRecDepth 100000 in
theorem dec_bef (n : Nat) (cs : List Value) (y : DataW H × List MemPlace) (h : DataW.trod enc Tryz.prog w 0 spare held n 61 cs = some y) : ∃ a : KBef, cs = a.cells := by
 obtain ⟨xs, m, _, _, hl, hx, hf⟩ := DataW.trod_struct Tryz.underlying61 h
 rw [cells61] at hl
 match cs, hl with
 | [c0, c1], _ =>
  match xs, hx with
  | [y0, y1], _ =>
   have h0 : DataW.trod enc Tryz.prog w 0 spare held m 3 (([c0,c1].drop 0).take (Tryz.prog.cellsOf 3)) = [y0, y1][0]? := hf 0 _ rfl
   rw [cells3] at h0
   obtain ⟨v0, e0, _⟩ := DataW.trod_int Tryz.underlying3 h0
   have h1 : DataW.trod enc Tryz.prog w 0 spare held m 3 (([c0,c1].drop 1).take (Tryz.prog.cellsOf 3)) = [y0, y1][1]? := hf 1 _ rfl
   rw [cells3] at h1
   obtain ⟨v1, e1, _⟩ := DataW.trod_int Tryz.underlying3 h1
   simp at e0 e1
   exact ⟨⟨v0, v1⟩, by rw [e0, e1]; rfl⟩
theorem rows_facts {m : Nat} {cs : List Value} {y : DataW H × List MemPlace} (h : DataW.trod enc Tryz.prog w 0 spare held m 31 cs = some y) : ∃ (A : Option Addr) (c : Nat) (xs : List KFact), cs = [.slice A xs.length c] ∧ At w 6 A xs.length c (xs.flatMap KFact.cells) ∧ ∀ a ∈ xs, In64 a.ref := by
 obtain ⟨A, c, xs, h1, h2, h3⟩ := open_rows KFact.cells (fun a => In64 a.ref) 6 (by omega) (fun _ => rfl) (fun a u hu => by
  simp only [KFact.cells, List.mem_cons, List.not_mem_nil, or_false] at hu; rcases hu with rfl | rfl | rfl | rfl | rfl | rfl <;> rfl) Tryz.underlying31 cells50 dec_fact h
 exact ⟨A, c, xs, h1, h2, h3⟩
theorem rows_befs {m : Nat} {cs : List Value} {y : DataW H × List MemPlace} (h : DataW.trod enc Tryz.prog w 0 spare held m 32 cs = some y) : ∃ (A : Option Addr) (c : Nat) (xs : List KBef), cs = [.slice A xs.length c] ∧ At w 2 A xs.length c (xs.flatMap KBef.cells) ∧ True := by
 obtain ⟨A, c, xs, h1, h2, h3⟩ := open_rows KBef.cells (fun _ => True) 2 (by omega) (fun _ => rfl) (fun a u hu => by
  simp only [KBef.cells, List.mem_cons, List.not_mem_nil, or_false] at hu; rcases hu with rfl | rfl <;> rfl) Tryz.underlying32 cells61 (fun n cs y h => by obtain ⟨a, ha⟩ := dec_bef n cs y h; exact ⟨a, ha, trivial⟩) h
 exact ⟨A, c, xs, h1, h2, trivial⟩
set_option maxRecDepth 100000 in
theorem dec_file (n : Nat) (cs : List Value) (y : DataW H × List MemPlace) (h : DataW.trod enc Tryz.prog w 0 spare held n 34 cs = some y) : ∃ a : KFile × FV, cs = FV.cells a.2 a.1 ∧ FileAt w a.2 a.1 ∧ ∀ x ∈ a.1.facts, In64 x.ref := by
 obtain ⟨xs, m, _, _, hl, hx, hf⟩ := DataW.trod_struct Tryz.underlying34 h
 rw [cells34] at hl
 match cs, hl with
 | [c0, c1, c2], _ =>
  match xs, hx with
  | [y0, y1, y2], _ =>
   have h0 : DataW.trod enc Tryz.prog w 0 spare held m 3 (([c0,c1,c2].drop 0).take (Tryz.prog.cellsOf 3)) = [y0, y1, y2][0]? := hf 0 _ rfl
   rw [cells3] at h0
   obtain ⟨v0, e0, _⟩ := DataW.trod_int Tryz.underlying3 h0
   have h1 : DataW.trod enc Tryz.prog w 0 spare held m 31 (([c0,c1,c2].drop 1).take (Tryz.prog.cellsOf 31)) = [y0, y1, y2][1]? := hf 1 _ rfl
   rw [cells31] at h1
   obtain ⟨A1, z1, v1, e1, a1, g1⟩ := rows_facts (show DataW.trod enc Tryz.prog w 0 spare held m 31 [c1] = some _ from h1)
   have h2 : DataW.trod enc Tryz.prog w 0 spare held m 32 (([c0,c1,c2].drop 2).take (Tryz.prog.cellsOf 32)) = [y0, y1, y2][2]? := hf 2 _ rfl
   rw [cells32] at h2
   obtain ⟨A2, z2, v2, e2, a2, g2⟩ := rows_befs (show DataW.trod enc Tryz.prog w 0 spare held m 32 [c2] = some _ from h2)
   simp at e0 e1 e2
   exact ⟨(⟨v0, v1, v2⟩, ⟨⟨A1, z1⟩, ⟨A2, z2⟩⟩), by rw [e0, e1, e2]; rfl, ⟨a1, a2⟩, g1⟩
theorem rows_files {m : Nat} {cs : List Value} {y : DataW H × List MemPlace} (h : DataW.trod enc Tryz.prog w 0 spare held m 28 cs = some y) : ∃ (A : Option Addr) (c : Nat) (xs : List KFile), cs = [.slice A xs.length c] ∧ FilesAt w ⟨A, c⟩ xs ∧ ∀ f ∈ xs, ∀ x ∈ f.facts, In64 x.ref := by
 obtain ⟨A, c, xs, h1, h2, h3⟩ := open_rows (fun a : KFile × FV => FV.cells a.2 a.1) (fun a => FileAt w a.2 a.1 ∧ ∀ x ∈ a.1.facts, In64 x.ref) 3 (by omega) (fun _ => rfl) (fun a u hu => by
  simp only [FV.cells, List.mem_cons, List.not_mem_nil, or_false] at hu; rcases hu with rfl | rfl | rfl <;> rfl) Tryz.underlying28 cells34 dec_file h
 refine ⟨A, c, xs.map (·.1), by rw [List.length_map]; exact h1, ⟨xs.map (·.2), by simp, ?_, fun i k t hk ht => ?_⟩, fun f hf => ?_⟩
 · rw [List.length_map, zip_unzip]; exact h2
 · simp only [List.getElem?_map, Option.map_eq_some_iff] at hk ht
   obtain ⟨a, ha, rfl⟩ := hk
   obtain ⟨b, hb, rfl⟩ := ht
   rw [ha] at hb; cases hb
   exact (h3 a (List.mem_of_getElem? ha)).1
 · obtain ⟨a, ha, rfl⟩ := List.mem_map.1 hf
   exact (h3 a ha).2
theorem rows_clauses {m : Nat} {cs : List Value} {y : DataW H × List MemPlace} (h : DataW.trod enc Tryz.prog w 0 spare held m 25 cs = some y) : ∃ (A : Option Addr) (c : Nat) (xs : List KClause), cs = [.slice A xs.length c] ∧ ClausesAt w ⟨A, c⟩ xs ∧ True := by
 obtain ⟨A, c, xs, h1, h2, h3⟩ := open_rows (fun a : KClause × SV => a.1.cells a.2) (fun a => At w 2 a.2.A a.1.start.length a.2.c (a.1.start.flatMap KCond.cells)) 16 (by omega) (fun _ => rfl) (fun a u hu => by
  simp only [KClause.cells, List.mem_cons, List.not_mem_nil, or_false] at hu; rcases hu with rfl | rfl | rfl | rfl | rfl | rfl | rfl | rfl | rfl | rfl | rfl | rfl | rfl | rfl | rfl | rfl <;> rfl) Tryz.underlying25 cells88 dec_clause h
 refine ⟨A, c, xs.map (·.1), by rw [List.length_map]; exact h1, ⟨xs.map (·.2), by simp, ?_, fun i k t hk ht => ?_⟩, trivial⟩
 · rw [List.length_map, zip_unzip]; exact h2
 · simp only [List.getElem?_map, Option.map_eq_some_iff] at hk ht
   obtain ⟨a, ha, rfl⟩ := hk
   obtain ⟨b, hb, rfl⟩ := ht
   rw [ha] at hb; cases hb
   exact h3 a (List.mem_of_getElem? ha)
set_option maxRecDepth 100000 in
theorem dec_con (n : Nat) (cs : List Value) (y : DataW H × List MemPlace) (h : DataW.trod enc Tryz.prog w 0 spare held n 27 cs = some y) : ∃ (v : CV) (C : KCon), cs = v.cells C ∧ ConAt w v C := by
 obtain ⟨xs, m, _, _, hl, hx, hf⟩ := DataW.trod_struct Tryz.underlying27 h
 rw [cells27] at hl
 match cs, hl with
 | [c0, c1, c2, c3, c4, c5, c6], _ =>
  match xs, hx with
  | [y0, y1, y2, y3, y4, y5, y6], _ =>
   have h0 : DataW.trod enc Tryz.prog w 0 spare held m 3 (([c0,c1,c2,c3,c4,c5,c6].drop 0).take (Tryz.prog.cellsOf 3)) = [y0, y1, y2, y3, y4, y5, y6][0]? := hf 0 _ rfl
   rw [cells3] at h0
   obtain ⟨v0, e0, _⟩ := DataW.trod_int Tryz.underlying3 h0
   have h1 : DataW.trod enc Tryz.prog w 0 spare held m 22 (([c0,c1,c2,c3,c4,c5,c6].drop 1).take (Tryz.prog.cellsOf 22)) = [y0, y1, y2, y3, y4, y5, y6][1]? := hf 1 _ rfl
   rw [cells22] at h1
   obtain ⟨A1, z1, v1, e1, a1, g1⟩ := rows_ints (show DataW.trod enc Tryz.prog w 0 spare held m 22 [c1] = some _ from h1)
   have h2 : DataW.trod enc Tryz.prog w 0 spare held m 23 (([c0,c1,c2,c3,c4,c5,c6].drop 2).take (Tryz.prog.cellsOf 23)) = [y0, y1, y2, y3, y4, y5, y6][2]? := hf 2 _ rfl
   rw [cells23] at h2
   obtain ⟨A2, z2, v2, e2, a2, g2⟩ := rows_units (show DataW.trod enc Tryz.prog w 0 spare held m 23 [c2] = some _ from h2)
   have h3 : DataW.trod enc Tryz.prog w 0 spare held m 24 (([c0,c1,c2,c3,c4,c5,c6].drop 3).take (Tryz.prog.cellsOf 24)) = [y0, y1, y2, y3, y4, y5, y6][3]? := hf 3 _ rfl
   rw [cells24] at h3
   obtain ⟨A3, z3, v3, e3, a3, g3⟩ := rows_acts (show DataW.trod enc Tryz.prog w 0 spare held m 24 [c3] = some _ from h3)
   have h4 : DataW.trod enc Tryz.prog w 0 spare held m 25 (([c0,c1,c2,c3,c4,c5,c6].drop 4).take (Tryz.prog.cellsOf 25)) = [y0, y1, y2, y3, y4, y5, y6][4]? := hf 4 _ rfl
   rw [cells25] at h4
   obtain ⟨A4, z4, v4, e4, a4, g4⟩ := rows_clauses (show DataW.trod enc Tryz.prog w 0 spare held m 25 [c4] = some _ from h4)
   have h5 : DataW.trod enc Tryz.prog w 0 spare held m 3 (([c0,c1,c2,c3,c4,c5,c6].drop 5).take (Tryz.prog.cellsOf 3)) = [y0, y1, y2, y3, y4, y5, y6][5]? := hf 5 _ rfl
   rw [cells3] at h5
   obtain ⟨v5, e5, _⟩ := DataW.trod_int Tryz.underlying3 h5
   have h6 : DataW.trod enc Tryz.prog w 0 spare held m 22 (([c0,c1,c2,c3,c4,c5,c6].drop 6).take (Tryz.prog.cellsOf 22)) = [y0, y1, y2, y3, y4, y5, y6][6]? := hf 6 _ rfl
   rw [cells22] at h6
   obtain ⟨A6, z6, v6, e6, a6, g6⟩ := rows_ints (show DataW.trod enc Tryz.prog w 0 spare held m 22 [c6] = some _ from h6)
   simp at e0 e1 e2 e3 e4 e5 e6
   exact ⟨⟨⟨A1, z1⟩, ⟨A2, z2⟩, ⟨A3, z3⟩, ⟨A4, z4⟩, ⟨A6, z6⟩⟩, ⟨v0, v1, v2, v3, v4, v5, v6⟩, by rw [e0, e1, e2, e3, e4, e5, e6]; rfl, ⟨a1, a2, a3, a4, a6⟩⟩
set_option maxRecDepth 100000 in
theorem open_con {v : Value} {d : DataW H} {p : List MemPlace} {r : Go.Reach} {base : Nat} (hv : Value.okWide Tryz.prog w r base 27 v) (h : DataW.Trod enc Tryz.prog w 0 (fun _ => true) true 27 v d p) : ∃ (cv : CV) (C : KCon), v = cv.val C ∧ ConAt w cv C := by
 obtain ⟨cs, rfl, _⟩ := okWide_struct Tryz.underlying27 hv
 obtain ⟨fuel, hf⟩ := h
 obtain ⟨cv, C, hy, hC⟩ := dec_con _ _ _ hf
 obtain ⟨l⟩ := cs
 simp only [Value.cells] at hy
 have e : l = cv.cells C := hy
 exact ⟨cv, C, by rw [e]; rfl, hC⟩
set_option maxRecDepth 100000 in
theorem open_file {v : Value} {d : DataW H} {p : List MemPlace} {r : Go.Reach} {base : Nat} (hv : Value.okWide Tryz.prog w r base 34 v) (h : DataW.Trod enc Tryz.prog w 0 (fun _ => true) true 34 v d p) : ∃ (fv : FV) (f : KFile), v = fv.val f ∧ FileAt w fv f ∧ ∀ x ∈ f.facts, In64 x.ref := by
 obtain ⟨cs, rfl, _⟩ := okWide_struct Tryz.underlying34 hv
 obtain ⟨fuel, hf⟩ := h
 obtain ⟨⟨f, fv⟩, hy, hC, hG⟩ := dec_file _ _ _ hf
 obtain ⟨l⟩ := cs
 simp only [Value.cells] at hy
 have e : l = fv.cells f := hy
 exact ⟨fv, f, by rw [e]; rfl, hC, hG⟩
set_option maxRecDepth 100000 in
theorem open_files {v : Value} {d : DataW H} {p : List MemPlace} {r : Go.Reach} {base : Nat} (hv : Value.okWide Tryz.prog w r base 28 v) (h : DataW.Trod enc Tryz.prog w 0 (fun _ => true) true 28 v d p) : ∃ (sv : SV) (l : List KFile), v = .slice sv.A l.length sv.c ∧ FilesAt w sv l ∧ ∀ f ∈ l, ∀ x ∈ f.facts, In64 x.ref := by
 obtain ⟨A, len, cap, rfl⟩ := okWide_slice Tryz.underlying28 hv
 obtain ⟨fuel, hf⟩ := h
 obtain ⟨A', c, xs, h1, h2, h3⟩ := rows_files hf
 simp only [Value.cells, List.cons.injEq, Value.slice.injEq, and_true] at h1
 obtain ⟨rfl, rfl, rfl⟩ := h1
 exact ⟨⟨A, cap⟩, xs, rfl, h2, h3⟩
set_option maxRecDepth 100000 in
theorem open_facts {v : Value} {d : DataW H} {p : List MemPlace} {r : Go.Reach} {base : Nat} (hv : Value.okWide Tryz.prog w r base 31 v) (h : DataW.Trod enc Tryz.prog w 0 (fun _ => true) true 31 v d p) : ∃ (sv : SV) (l : List KFact), v = .slice sv.A l.length sv.c ∧ At w 6 sv.A l.length sv.c (factCells l) ∧ ∀ x ∈ l, In64 x.ref := by
 obtain ⟨A, len, cap, rfl⟩ := okWide_slice Tryz.underlying31 hv
 obtain ⟨fuel, hf⟩ := h
 obtain ⟨A', c, xs, h1, h2, h3⟩ := rows_facts hf
 simp only [Value.cells, List.cons.injEq, Value.slice.injEq, and_true] at h1
 obtain ⟨rfl, rfl, rfl⟩ := h1
 exact ⟨⟨A, cap⟩, xs, rfl, h2, h3⟩
set_option maxRecDepth 100000 in
theorem open_ints {v : Value} {d : DataW H} {p : List MemPlace} {r : Go.Reach} {base : Nat} (hv : Value.okWide Tryz.prog w r base 22 v) (h : DataW.Trod enc Tryz.prog w 0 (fun _ => true) true 22 v d p) : ∃ (sv : SV) (l : List Int), v = .slice sv.A l.length sv.c ∧ At w 1 sv.A l.length sv.c (ints l) := by
 obtain ⟨A, len, cap, rfl⟩ := okWide_slice Tryz.underlying22 hv
 obtain ⟨fuel, hf⟩ := h
 obtain ⟨A', c, xs, h1, h2, _⟩ := rows_ints hf
 simp only [Value.cells, List.cons.injEq, Value.slice.injEq, and_true] at h1
 obtain ⟨rfl, rfl, rfl⟩ := h1
 exact ⟨⟨A, cap⟩, xs, rfl, h2⟩
end
end Go.Proofs.YtahhdjeclbagnaaGreatDoor
