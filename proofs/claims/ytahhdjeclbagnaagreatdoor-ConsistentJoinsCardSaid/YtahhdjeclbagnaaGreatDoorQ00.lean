/-
  Mem
-/
import Derived.WalkKit
import Derived.WalkSpells
import Derived.WalkLawsBesides
import Derived.Lib.Hide
import Derived.Lib.AppendZeros
import Derived.Lib.Overlaps
import Derived.Deep.QuietTactic
import Derived.BigQuiet
import Derived.Deep.RegionLaw
import Derived.Deep.Draws
namespace Go.Proofs.YtahhdjeclbagnaaGreatDoor
open Go.RowKit
structure Upd (S : Nat → Prop) (w w' : World) : Prop where
 os : w'.os = w.os
 tape : w'.tape = w.tape
 output : w'.output = w.output
 size : w.heap.size ≤ w'.heap.size
 block : ∀ k, k < w.heap.size → ¬ S k → w'.heap[k]? = w.heap[k]?
theorem Upd.refl (S : Nat → Prop) (w : World) : Upd S w w := ⟨rfl, rfl, rfl, Nat.le_refl _, fun _ _ _ => rfl⟩
theorem Upd.trans {S S' : Nat → Prop} {a b c : World} (h : Upd S a b) (k : Upd S' b c) (hs : ∀ i, i < a.heap.size → S' i → S i) : Upd S a c :=
 ⟨k.os.trans h.os, k.tape.trans h.tape, k.output.trans h.output, Nat.le_trans h.size k.size,
  fun i hi hn => (k.block i (Nat.lt_of_lt_of_le hi h.size) (fun x => hn (hs i hi x))).trans (h.block i hi hn)⟩
theorem Upd.mono {S S' : Nat → Prop} {w w' : World} (h : Upd S w w') (hs : ∀ i, i < w.heap.size → S i → S' i) : Upd S' w w' :=
 ⟨h.os, h.tape, h.output, h.size, fun i hi hn => h.block i hi (fun x => hn (hs i hi x))⟩
theorem Upd.drew {S : Nat → Prop} {a w : World} (h : Upd S a w) : Upd S a w.drew := ⟨h.os, h.tape, h.output, h.size, h.block⟩
theorem Upd.drewN {S : Nat → Prop} {a w : World} (h : Upd S a w) (n : Nat) : Upd S a (w.drewN n) := ⟨h.os, h.tape, h.output, h.size, h.block⟩
theorem Upd.alloc {S : Nat → Prop} {a w : World} (h : Upd S a w) (o : Obj) : Upd S a (w.alloc o) :=
 ⟨h.os, h.tape, h.output, Nat.le_trans h.size (by simp), fun i hi hn => (Below.heap_alloc w o i (Nat.lt_of_lt_of_le hi h.size)).trans (h.block i hi hn)⟩
theorem Upd.setCell {S : Nat → Prop} {a w : World} (h : Upd S a w) {p : Addr} (hp : S p.block ∨ a.heap.size ≤ p.block) (u : Value) : Upd S a (w.setCell p u) :=
 ⟨h.os, h.tape, h.output, by simpa [World.setCell] using h.size, fun i hi hn => (Below.heap_setCell w p u i (by
  rintro rfl
  rcases hp with hp | hp
  · exact hn hp
  · omega)).trans (h.block i hi hn)⟩
theorem Upd.of_grown {w w' : World} {row : Option Nat} (h : w.grownBy w' row) : Upd (fun k => row = some k) w w' :=
 ⟨h.os, h.tape, h.output, h.size, fun i hi hn => h.block i hi (fun e => hn e.symm)⟩
theorem Upd.of_below {w w' : World} {B : Nat} (h : Below B w w') : Upd (fun k => B ≤ k) w w' :=
 ⟨h.os, h.tape, h.output, h.size, fun i _ hn => h.block i (by omega)⟩
theorem Upd.below {S : Nat → Prop} {w w' : World} (h : Upd S w w') {B : Nat} (hB : B ≤ w.heap.size) (hs : ∀ k, S k → B ≤ k) : Below B w w' :=
 ⟨h.os, h.tape, h.output, h.size, fun i hi => h.block i (by omega) (fun x => by have := hs i x; omega)⟩
theorem Upd.keep {S : Nat → Prop} {w w' : World} (h : Upd S w w') {g : Nat} {o : Obj} (hg : w.heap[g]? = some o) (hn : ¬ S g) : w'.heap[g]? = some o :=
 (h.block g (Array.getElem?_eq_some_iff.1 hg).1 hn).trans hg
theorem lt_of_heap {w : World} {g : Nat} {o : Obj} (hg : w.heap[g]? = some o) : g < w.heap.size := (Array.getElem?_eq_some_iff.1 hg).1
theorem Upd.setRow {S : Nat → Prop} {a w : World} (h : Upd S a w) {g : Nat} (hp : S g ∨ a.heap.size ≤ g) (cs : Array Value) : Upd S a (w.setRow g cs) :=
 ⟨h.os, h.tape, h.output, by simpa [World.setRow] using h.size, fun i hi hn => (setRow_other w g i cs (by
  rintro rfl
  rcases hp with hp | hp
  · exact hn hp
  · omega)).trans (h.block i hi hn)⟩
def RowAt (w : World) (e : TypeId) (size : Nat) (v : Value) (n : Nat) (xs : List Value) (blk : Option Nat) : Prop :=
 xs.length = n * size ∧
 ((v = .slice none 0 0 ∧ n = 0 ∧ blk = none) ∨
  ∃ g off cap cur, blk = some g ∧ v = .slice (some ⟨g, off, none⟩) n cap ∧ w.heap[g]? = some (.cells cur e (0, 0)) ∧ n ≤ cap ∧ cap ≤ maxLen ∧ off + cap * size ≤ cur.size ∧ (cur.toList.drop off).take (n * size) = xs)
def Src (w : World) (size : Nat) (A : Option Addr) (m : Nat) (news : List Value) : Prop :=
 news.length = m * size ∧ (∀ u ∈ news, u.oneCell' = true) ∧ (0 < m → ∃ ad, A = some ad ∧ ∀ j u, news[j]? = some u → w.cell? (ad.add j) = some u)
section
variable {w : World} {e : TypeId} {size : Nat} {v : Value} {n : Nat} {xs : List Value} {blk : Option Nat}
theorem RowAt.nil (w : World) (e : TypeId) (size : Nat) : RowAt w e size (.slice none 0 0) 0 [] none := ⟨by simp, .inl ⟨rfl, rfl, rfl⟩⟩
theorem RowAt.lt (h : RowAt w e size v n xs blk) {k : Nat} (hk : blk = some k) : k < w.heap.size := by
 rcases h.2 with ⟨_, _, rfl⟩ | ⟨g, off, cap, cur, rfl, _, hg, _⟩
 · cases hk
 · injection hk with hk; subst hk; exact lt_of_heap hg
theorem RowAt.keep {w' : World} {S : Nat → Prop} (h : RowAt w e size v n xs blk) (hu : Upd S w w') (hn : ∀ k, blk = some k → ¬ S k) : RowAt w' e size v n xs blk := by
 refine ⟨h.1, ?_⟩
 rcases h.2 with h0 | ⟨g, off, cap, cur, hb, hv, hg, r⟩
 · exact .inl h0
 · exact .inr ⟨g, off, cap, cur, hb, hv, hu.keep hg (hn g hb), r⟩
theorem RowAt.new (w : World) (e : TypeId) (size : Nat) (cs : Array Value) (n : Nat) (hc : n ≤ maxLen) (hs : cs.size = n * size) :
 RowAt (w.alloc (.cells cs e)) e size (.slice (some ⟨w.heap.size, 0, none⟩) n n) n cs.toList (some w.heap.size) :=
 ⟨by simpa using hs, .inr ⟨w.heap.size, 0, n, cs, rfl, rfl, heap_alloc_new w _, Nat.le_refl _, hc, by omega, by rw [List.drop_zero, List.take_of_length_le (by simp [hs])]⟩⟩
theorem RowAt.newCap (w : World) (e : TypeId) (size : Nat) (cs : Array Value) (c : Nat) (hc : c ≤ maxLen) (hs : cs.size = c * size) :
 RowAt (w.alloc (.cells cs e)) e size (.slice (some ⟨w.heap.size, 0, none⟩) 0 c) 0 [] (some w.heap.size) :=
 ⟨by simp, .inr ⟨w.heap.size, 0, c, cs, rfl, rfl, heap_alloc_new w _, Nat.zero_le _, hc, by omega, by simp⟩⟩
theorem RowAt.form (h : RowAt w e size v n xs blk) (hn : 0 < n) :
 ∃ g off cap, blk = some g ∧ v = .slice (some ⟨g, off, none⟩) n cap ∧ n ≤ cap ∧ cap ≤ maxLen ∧ g < w.heap.size ∧ (∀ j, j < n * size → w.cell? ⟨g, off + j, none⟩ = xs[j]?) ∧ (∀ j, w.frozen? ⟨g, j, none⟩ = false) := by
 rcases h.2 with ⟨_, h0, _⟩ | ⟨g, off, cap, cur, hb, hv, hg, h1, h2, h3, h4⟩
 · omega
 · refine ⟨g, off, cap, hb, hv, h1, h2, lt_of_heap hg, fun j hj => ?_, fun j => by simp [World.frozen?, hg]⟩
   rw [cell_of_row w g (off + j) cur e (0, 0) hg, ← h4, List.getElem?_take, if_pos hj, List.getElem?_drop]
   simp
theorem RowAt.val (h : RowAt w e size v n xs blk) : ∃ A cap, v = .slice A n cap ∧ n ≤ cap ∧ cap ≤ maxLen := by
 rcases h.2 with ⟨hv, h0, _⟩ | ⟨g, off, cap, cur, hb, hv, hg, h1, h2, h3, h4⟩
 · subst h0; exact ⟨none, 0, hv, Nat.le_refl _, Nat.zero_le _⟩
 · exact ⟨_, cap, hv, h1, h2⟩
theorem RowAt.src (h : RowAt w e size v n xs blk) (h1 : ∀ u ∈ xs, u.oneCell' = true) : ∃ A cap, v = .slice A n cap ∧ Src w size A n xs := by
 rcases Nat.eq_zero_or_pos n with h0 | h0
 · obtain ⟨A, cap, hv, _⟩ := h.val
   exact ⟨A, cap, hv, h.1, h1, fun hp => by omega⟩
 · obtain ⟨g, off, cap, hb, hv, _, _, _, hc, _⟩ := h.form h0
   refine ⟨_, cap, hv, h.1, h1, fun _ => ⟨_, rfl, fun j u hu => ?_⟩⟩
   have hj : j < xs.length := (List.getElem?_eq_some_iff.1 hu).1
   rw [Addr.add_lit, hc j (by rw [← h.1]; exact hj), hu]
theorem RowAt.cut (h : RowAt w e size v n xs blk) {g off cap k c' : Nat} (hv : v = .slice (some ⟨g, off, none⟩) n cap) (hk : k ≤ n) (hc : n ≤ k + c') (hc' : k + c' ≤ cap) :
 RowAt w e size (.slice (some ⟨g, off + k * size, none⟩) (n - k) c') (n - k) (xs.drop (k * size)) blk := by
 rcases h.2 with ⟨h0, _, _⟩ | ⟨g', off', cap', cur, hb, hv', hg, h1, h2, h3, h4⟩
 · rw [h0] at hv; cases hv
 · rw [hv] at hv'
   injection hv' with e1 e2 e3
   injection e1 with e1
   injection e1 with e1 e4
   subst e1 e4 e3
   refine ⟨by rw [List.length_drop, h.1, Nat.sub_mul], .inr ⟨g, off + k * size, c', cur, hb, rfl, hg, by omega, by omega, ?_, ?_⟩⟩
   · have : (k + c') * size ≤ cap * size := Nat.mul_le_mul_right _ hc'
     rw [Nat.add_mul] at this
     omega
   · rw [← h4, List.drop_take, List.drop_drop, Nat.sub_mul]
end
section
variable {P : Program} (w : World)
theorem run_append_row (t ty e : TypeId) (i : TypeInfo) (z : Value) (size bytes : Nat) (ht : P.underlying t = some (.slice e)) (hi : P.info? e = some i) (hz : i.zero = some z)
 (hsize : i.size = size) (hby : i.bytes = bytes) (hzs : z.cells.size = size)
 (v : Value) (n : Nat) (xs : List Value) (blk : Option Nat) (hown : RowAt w e size v n xs blk)
 (A : Option Addr) (m c : Nat) (news : List Value) (hsrc : Src w size A m news)
 (h63 : n + m ≤ maxLen) (hbytes : (n + m) * bytes ≤ 140737488355328) :
 ∃ v' w' blk', (Builtin.append_ #[t, t] ty #[v, .slice A m c]).run P w = .ok v' w' ∧ RowAt w' e size v' (n + m) (xs ++ news) blk' ∧ Upd (fun k => blk = some k) w w' ∧
  (blk' = blk ∨ ∃ g, blk' = some g ∧ w.heap.size ≤ g) := by
 subst hsize
 subst hby
 obtain ⟨hl, h1, hs⟩ := hsrc
 have hsmall : n + m ≤ 9223372036854775807 := by simp only [maxLen] at h63; omega
 have hlen : (xs ++ news).length = (n + m) * i.size := by rw [List.length_append, hown.1, hl, Nat.add_mul]
 have grown : ∀ (old : Nat),
  RowAt (w.drew.alloc (.cells (xs.toArray ++ news.toArray ++ Builtin.zeroCells z.cells (grownCap w (n + m) old e - (n + m))) e)) e i.size
   (.slice (some ⟨w.heap.size, 0, none⟩) (n + m) (grownCap w (n + m) old e)) (n + m) (xs ++ news) (some w.heap.size) := by
  intro old
  have hge := grownCap_ge w (n + m) old e
  have hcm : grownCap w (n + m) old e ≤ maxLen := grownCap_le_maxLen w (n + m) old e h63
  refine ⟨hlen, .inr ⟨w.heap.size, 0, _, _, rfl, rfl, heap_alloc_new w.drew _, hge, hcm, ?_, ?_⟩⟩
  · simp only [Array.size_append, List.size_toArray, size_zeroCells, hzs, hown.1, hl, ← Nat.add_mul]
    rw [Nat.zero_add, show n + m + (grownCap w (n + m) old e - (n + m)) = grownCap w (n + m) old e by omega]
    exact Nat.le_refl _
  · simp only [Array.toList_append, List.append_assoc, List.drop_zero]
    rw [← List.append_assoc, ← hlen]
    exact List.take_left
 rcases Nat.eq_zero_or_pos m with rfl | hm
 · have hn0 : news = [] := List.eq_nil_of_length_eq_zero (by simpa using hl)
   subst hn0
   refine ⟨v, w, blk, ?_, by simpa using hown, Upd.refl _ _, .inl rfl⟩
   obtain ⟨B, cap, rfl, hnc, _⟩ := hown.val
   cases A <;> cases B <;> simp [Builtin.append_, run_underlying ht, sizeOf, typeInfo, hi, Builtin.lenOf, Builtin.firstCells, hnc, loadCells, loadCellsFrom, storeCells]
 · obtain ⟨a, rfl, hnews⟩ := hs hm
   rcases hown.2 with ⟨rfl, rfl, rfl⟩ | ⟨g, off, cap, cur, rfl, rfl, hg, hnc, hcm, hcs, htake⟩
   · have hx : xs = [] := List.eq_nil_of_length_eq_zero (by simpa using hown.1)
     subst hx
     have hr := run_append_nil (P := P) w t ty e i z ht hi hz a m c news hl hnews (by omega) (by omega) (by have hb := hbytes; simp only [Nat.zero_add] at hb; omega)
     have hgr := grown 0
     simp only [Nat.zero_add, List.nil_append, Array.empty_append] at hgr ⊢
     exact ⟨_, _, _, hr, hgr, ((Upd.refl _ w).drew).alloc _, .inr ⟨_, rfl, Nat.le_refl _⟩⟩
   · by_cases hroom : n + m ≤ cap
     · have hfit : off + n * i.size + news.length ≤ cur.size := by
        have := Nat.mul_le_mul_right i.size hroom
        rw [Nat.add_mul] at this
        rw [hl]; omega
       have hf := run_firstCells_some (P := P) w i.size m a m c news hl hnews
       have hst := run_storeCells_at P g (off + n * i.size) e news 0 cur w hg (by simpa using hfit) h1
       simp only [Nat.add_zero] at hst
       refine ⟨.slice (some ⟨g, off, none⟩) (n + m) cap, w.setRow g (cur.toList.take (off + n * i.size) ++ news ++ cur.toList.drop (off + n * i.size + news.length)).toArray, some g, ?_, ?_, ?_, .inl rfl⟩
       · simp [Builtin.append_, run_underlying ht, sizeOf, typeInfo, hi, Builtin.lenOf, hroom, hf, Addr.add_lit, hst]
       · refine ⟨hlen, .inr ⟨g, off, cap, _, rfl, rfl, setRow_heap w g cur _ e _ hg, hroom, hcm, ?_, ?_⟩⟩
         · simp only [List.size_toArray, List.length_append, List.length_take, List.length_drop, Array.length_toList]
           omega
         · have hxs : xs = (cur.toList.take (off + n * i.size)).drop off := by rw [List.drop_take, ← htake]; congr 1; omega
           have hlo : off ≤ (cur.toList.take (off + n * i.size)).length := by simp; omega
           rw [List.append_assoc, List.drop_append_of_le_length hlo, ← hxs, ← List.append_assoc, ← hlen]
           exact List.take_left
       · exact (Upd.refl (fun k => some g = some k) w).setRow (.inl rfl) _
     · have holds : ∀ j u, xs[j]? = some u → w.cell? ((⟨g, off, none⟩ : Addr).add j) = some u := by
        intro j u hu
        have hj : j < xs.length := (List.getElem?_eq_some_iff.1 hu).1
        rw [← htake, List.getElem?_take] at hu
        rw [Addr.add_lit, cell_of_row w g (off + j) cur e (0, 0) hg]
        split at hu
        · simpa [List.getElem?_drop] using hu
        · cases hu
       have hr := run_append_grow (P := P) w t ty e i z ht hi hz ⟨g, off, none⟩ n cap xs hown.1 holds a m c news hl hnews (by omega) (by omega) (growslice_fits (by omega) hbytes)
       exact ⟨_, _, _, hr, grown cap, ((Upd.refl _ w).drew).alloc _, .inr ⟨_, rfl, Nat.le_refl _⟩⟩
theorem run_append_zeros_grow (t tn ty e : TypeId) (i : TypeInfo) (z : Value) (k kn : IntKind) (ht : P.underlying t = some (.slice e)) (htn : P.underlying tn = some (.int kn)) (hi : P.info? e = some i) (hz : i.zero = some z)
 (b : Addr) (sLen sCap : Nat) (olds : List Value) (hlo : olds.length = sLen * i.size) (holds : ∀ j v, olds[j]? = some v → w.cell? (b.add j) = some v)
 (n : Nat) (h0 : 0 < n) (hs : 0 < i.size) (hg : sCap < sLen + n) (h63 : ((sLen + n : Nat) : Int) ≤ 9223372036854775807) (hfit : Builtin.nextslicecap (sLen + n) sCap * i.bytes ≤ 281474976710656) (hnb : n * i.bytes ≤ 281474976710656) :
 (Builtin.append_ #[t, tn] ty #[.slice (some b) sLen sCap, .int k n]).run P w =
  .ok (.slice (some ⟨w.heap.size, 0, none⟩) (sLen + n) (grownCap w (sLen + n) sCap e))
   (w.drew.alloc (.cells (olds.toArray ++ Builtin.zeroCells z.cells n ++ Builtin.zeroCells z.cells (grownCap w (sLen + n) sCap e - (sLen + n))) e)) := by
 have hn : n ≠ 0 := by omega
 have hn' : ¬ (sLen + n ≤ sCap) := by omega
 have hw : IntKind.i64.wrap (n : Int) = n := by rw [IntKind.wrap_i64]; omega
 have h63' : ¬ (9223372036854775807 < ((sLen : Int) + (n : Int))) := by omega
 have h48' : ¬ (281474976710656 < Builtin.nextslicecap (sLen + n) sCap * i.bytes) := by omega
 have h48i : ¬ (281474976710656 < (n : Int) * (i.bytes : Int)) := by
  rw [← Int.natCast_mul]
  omega
 have hneg : ¬ ((n : Int) < 0) := by omega
 have hns : ¬ (n * i.size = 0) := Nat.mul_ne_zero hn (by omega)
 have hfo := run_firstCells_some (P := P) w.drew i.size sLen b sLen sCap olds hlo (by simpa using holds)
 simp [Builtin.append_, run_underlying ht, run_underlying htn, sizeOf, typeInfo, zeroValue, hi, hz, asInt, asIntOf, hw, hn', hneg, hns, h63', h48', h48i, Question.forced, hfo, newRow, grownCap]
 try (congr 2; apply Array.ext'; simp [List.append_assoc])
theorem run_copy_rowN (dT sT ty elem : TypeId) (i : TypeInfo) (hu : P.underlying dT = some (.slice elem)) (hi : P.info? elem = some i)
 (g o dLen dCap : Nat) (a : Addr) (sLen sCap : Nat) (cur : Array Value) (t : TypeId) (cs : List Value) (k : Nat) (hk : min sLen dLen = k)
 (hg : w.heap[g]? = some (.cells cur t (0, 0))) (hn : cs.length = k * i.size)
 (hsrc : ∀ j v, cs[j]? = some v → w.cell? (a.add j) = some v) (hfit : o + cs.length ≤ cur.size) (h1 : ∀ v ∈ cs, v.oneCell' = true) :
 (Builtin.copy_ #[dT, sT] ty #[.slice (some ⟨g, o, none⟩) dLen dCap, .slice (some a) sLen sCap]).run P w =
  .ok (goInt k) (w.setRow g (cur.toList.take o ++ cs ++ cur.toList.drop (o + cs.length)).toArray) := by
 have hl := run_loadCells_list (P := P) w a cs hsrc
 have hst := run_storeCells_at P g o t cs 0 cur w hg (by simpa using hfit) h1
 have hk' : Nat.min sLen dLen = k := hk
 simp [Builtin.copy_, run_underlying hu, Builtin.lenOf, Builtin.firstCells, sizeOf, typeInfo, hi, hk', ← hn, hl, hst]
end
def RetRow (e : TypeId) (size n : Nat) (xs : List Value) (blk : Option Nat) (w : World) (en : Ending) (w' : World) : Prop :=
 ∃ v' blk', en = .returned v' ∧ RowAt w' e size v' n xs blk' ∧ Upd (fun k => blk = some k) w w' ∧ (blk' = blk ∨ ∃ g, blk' = some g ∧ w.heap.size ≤ g)
section
variable {P : Program} {w : World} {ops : Array Oper} {rest : List Oper} {o : Oper} {a : Act} {K : Act → World → Prop} {Q : Exit → Act → World → Prop}
theorem wp_copy_run (d s : Operand) (t t' : TypeId)
 (ho : o.op = .call { callee := .builtin .copy, args := #[d, s], argTypes := #[t, t'] }) (v u : Value) (hd : a.eval d = v) (hs : a.eval s = u) {v' : Value} {w' : World}
 (hr : (Builtin.copy_ #[t, t'] o.type #[v, u]).run P w = .ok v' w') (h : K (a.put o.dst v') w') : o.wp P a w K Q := by
 unfold Oper.wp execOp
 simp only [ho, resolve, invoke, builtin, Sem.run_bind, Sem.run_pure, Result.andThen_ok, List.map_toArray, List.map_cons, List.map_nil, hd, hs, hr]
 exact h
theorem wpList_copy_run (hgd : o.guard = none) (d s : Operand) (t t' : TypeId)
 (ho : o.op = .call { callee := .builtin .copy, args := #[d, s], argTypes := #[t, t'] }) (v u : Value) (hd : a.eval d = v) (hs : a.eval s = u) {v' : Value} {w' : World}
 (hr : (Builtin.copy_ #[t, t'] o.type #[v, u]).run P w = .ok v' w') (h : wpList P ops Q rest (a.put o.dst v') w') : wpList P ops Q (o :: rest) a w :=
 wpList_plain hgd fun _ hK => wp_copy_run d s t t' ho v u hd hs hr (hK _ _ h)
theorem step_copy_run {E : Prop} (hgd : o.guard = none) (d s : Operand) (t t' : TypeId)
 (ho : o.op = .call { callee := .builtin .copy, args := #[d, s], argTypes := #[t, t'] }) (v u : Value) (hd : a.eval d = v) (hs : a.eval s = u) {v' : Value} {w' : World}
 (hr : (Builtin.copy_ #[t, t'] o.type #[v, u]).run P w = .ok v' w') (h : K (a.put o.dst v') w') :
 if Region.wanted o (yielded ops a.tmps) = true then Oper.wp P o a w K Q else E := by
 have hw : Region.wanted o (yielded ops a.tmps) = true := by simp [Region.wanted, hgd]
 rw [if_pos hw]
 exact wp_copy_run d s t t' ho v u hd hs hr h
theorem wp_append_run (d s : Operand) (t t' : TypeId)
 (ho : o.op = .call { callee := .builtin .append, args := #[d, s], argTypes := #[t, t'] }) (v u : Value) (hd : a.eval d = v) (hs : a.eval s = u) {v' : Value} {w' : World}
 (hr : (Builtin.append_ #[t, t'] o.type #[v, u]).run P w = .ok v' w') (h : K (a.put o.dst v') w') : o.wp P a w K Q := by
 unfold Oper.wp execOp
 simp only [ho, resolve, invoke, builtin, Sem.run_bind, Sem.run_pure, Result.andThen_ok, List.map_toArray, List.map_cons, List.map_nil, hd, hs, hr]
 exact h
theorem wpList_append_run (hgd : o.guard = none) (d s : Operand) (t t' : TypeId)
 (ho : o.op = .call { callee := .builtin .append, args := #[d, s], argTypes := #[t, t'] }) (v u : Value) (hd : a.eval d = v) (hs : a.eval s = u) {v' : Value} {w' : World}
 (hr : (Builtin.append_ #[t, t'] o.type #[v, u]).run P w = .ok v' w') (h : wpList P ops Q rest (a.put o.dst v') w') : wpList P ops Q (o :: rest) a w :=
 wpList_plain hgd fun _ hK => wp_append_run d s t t' ho v u hd hs hr (hK _ _ h)
theorem step_append_run {E : Prop} (hgd : o.guard = none) (d s : Operand) (t t' : TypeId)
 (ho : o.op = .call { callee := .builtin .append, args := #[d, s], argTypes := #[t, t'] }) (v u : Value) (hd : a.eval d = v) (hs : a.eval s = u) {v' : Value} {w' : World}
 (hr : (Builtin.append_ #[t, t'] o.type #[v, u]).run P w = .ok v' w') (h : K (a.put o.dst v') w') :
 if Region.wanted o (yielded ops a.tmps) = true then Oper.wp P o a w K Q else E := by
 have hw : Region.wanted o (yielded ops a.tmps) = true := by simp [Region.wanted, hgd]
 rw [if_pos hw]
 exact wp_append_run d s t t' ho v u hd hs hr h
end
theorem length_flat {α : Type} (f : α → List Value) (s : Nat) (h : ∀ a, (f a).length = s) (l : List α) : (l.flatMap f).length = l.length * s := by
 induction l with
 | nil => simp
 | cons a l ih => rw [List.flatMap_cons, List.length_append, ih, h, List.length_cons, Nat.succ_mul]; omega
theorem get_flat {α : Type} (f : α → List Value) (s : Nat) (h : ∀ a, (f a).length = s) : ∀ (l : List α) (k j : Nat) (a : α), l[k]? = some a → j < s → (l.flatMap f)[k * s + j]? = (f a)[j]?
 | [], _, _, _, hk, _ => by simp at hk
 | b :: l, 0, j, a, hk, hj => by
  simp at hk; subst hk
  rw [List.flatMap_cons, Nat.zero_mul, Nat.zero_add, List.getElem?_append_left (by rw [h]; exact hj)]
 | b :: l, k + 1, j, a, hk, hj => by
  rw [List.flatMap_cons, List.getElem?_append_right (by rw [h, Nat.succ_mul]; omega), h, show (k + 1) * s + j - s = k * s + j by rw [Nat.succ_mul]; omega]
  exact get_flat f s h l k j a (by simpa using hk) hj
theorem drop_flat {α : Type} (f : α → List Value) (s : Nat) (h : ∀ a, (f a).length = s) : ∀ (l : List α) (k : Nat), (l.flatMap f).drop (k * s) = (l.drop k).flatMap f
 | [], k => by simp
 | b :: l, 0 => by simp
 | b :: l, k + 1 => by
  rw [List.flatMap_cons, List.drop_succ_cons, Nat.succ_mul, Nat.add_comm, ← List.drop_drop, ← drop_flat f s h l k]
  congr 1
  rw [List.drop_append_of_le_length (by rw [h]; exact Nat.le_refl _), List.drop_of_length_le (by rw [h]; exact Nat.le_refl _), List.nil_append]
theorem take_flat {α : Type} (f : α → List Value) (s : Nat) (h : ∀ a, (f a).length = s) : ∀ (l : List α) (k : Nat), (l.flatMap f).take (k * s) = (l.take k).flatMap f
 | [], k => by simp
 | b :: l, 0 => by simp
 | b :: l, k + 1 => by
  rw [List.flatMap_cons, List.take_succ_cons, List.flatMap_cons, Nat.succ_mul, Nat.add_comm, List.take_append, h, List.take_of_length_le (by rw [h]; omega), Nat.add_sub_cancel_left, take_flat f s h l k]
theorem Src.form {w : World} {size m : Nat} {A : Option Addr} {news : List Value} (h : Src w size A m news) (hm : 0 < m) (hs : 0 < size) :
 ∃ b off, A = some ⟨b, off, none⟩ ∧ b < w.heap.size ∧ ∀ j, j < m * size → w.cell? ⟨b, off + j, none⟩ = news[j]? := by
 obtain ⟨ad, rfl, hc⟩ := h.2.2 hm
 have hl : 0 < news.length := by rw [h.1]; exact Nat.mul_pos hm hs
 have h0 := hc 0 _ (List.getElem?_eq_getElem hl)
 rw [Addr.add_zero'] at h0
 have hlt := World.block_lt_of_cell? w ad h0
 obtain ⟨b, off, spot⟩ := ad
 cases spot with
 | some s =>
  unfold World.cell? at h0
  split at h0 <;> simp at h0
 | none =>
  refine ⟨b, off, rfl, hlt, fun j hj => ?_⟩
  rw [← Addr.add_lit, hc j _ (List.getElem?_eq_getElem (by rw [h.1]; exact hj)), List.getElem?_eq_getElem (by rw [h.1]; exact hj)]
theorem Src.below {w w' : World} {size m : Nat} {A : Option Addr} {news : List Value} (h : Src w size A m news) (hs : 0 < size) (hb : Below w.heap.size w w') : Src w' size A m news := by
 refine ⟨h.1, h.2.1, fun hm => ?_⟩
 obtain ⟨b, off, rfl, hlt, hc⟩ := h.form hm hs
 refine ⟨_, rfl, fun j u hu => ?_⟩
 have hj : j < m * size := by rw [← h.1]; exact (List.getElem?_eq_some_iff.1 hu).1
 rw [Addr.add_lit, hb.cell (p := ⟨b, off + j, none⟩) hlt, hc j hj, hu]
theorem heap_setCell_same {w : World} {g i : Nat} {cs : Array Value} {t : TypeId} (h : w.heap[g]? = some (.cells cs t (0, 0))) (u : Value) :
 (w.setCell ⟨g, i, none⟩ u).heap[g]? = some (.cells (cs.setIfInBounds i u) t (0, 0)) := by
 simp [World.setCell, Array.getElem?_modify, h]
def Ret (v : Value) (w : World) (e : Ending) (w' : World) : Prop := e = .returned v ∧ w = w'
def RetB (v : Value) (w : World) (e : Ending) (w' : World) : Prop := e = .returned v ∧ Below w.heap.size w w'
def RetQ (v : Value) (w : World) (e : Ending) (w' : World) : Prop := e = .returned v ∧ ∃ n, w' = w.drewN n
theorem below_drewN (w : World) (n : Nat) : Below w.heap.size w (w.drewN n) := ⟨rfl, rfl, rfl, Nat.le_refl _, fun _ _ => rfl⟩
theorem info_parts' {P : Program} {t : TypeId} {z : Option Value} {s b : Nat} (h : (P.info? t).map (fun i => (i.zero, i.size, i.bytes)) = some (z, s, b)) : ∃ i, P.info? t = some i ∧ i.zero = z ∧ i.size = s ∧ i.bytes = b := by
 cases e : P.info? t with
 | none => rw [e] at h; cases h
 | some i =>
  rw [e] at h
  simp at h
  exact ⟨i, rfl, h.1, h.2.1, h.2.2⟩
def At (w : World) (size : Nat) (A : Option Addr) (n c : Nat) (xs : List Value) : Prop := Src w size A n xs ∧ (A = none → n = 0 ∧ c = 0) ∧ n ≤ c ∧ c ≤ maxLen
theorem At.below {w w' : World} {size n c : Nat} {A : Option Addr} {xs : List Value} (h : At w size A n c xs) (hs : 0 < size) (hb : Below w.heap.size w w') : At w' size A n c xs := ⟨h.1.below hs hb, h.2⟩
end Go.Proofs.YtahhdjeclbagnaaGreatDoor
