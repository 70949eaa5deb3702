/-
  Set; Meet; Clo0; Clo1
-/
import Derived.Maps.OwnSet
import Derived.Maps.OwnOps
import Derived.Maps.OwnIn
import Derived.Sort.KeysCollected
import Derived.Test.YtaielhafpmjkaaaGreatDoorQ22
import Derived.Test.YtaielhafpmjkaaaGreatDoorQ26
import Derived.Test.YtaielhafpmjkaaaGreatDoorQ27
import Derived.Test.YtaielhafpmjkaaaGreatDoorQ17
import Derived.Test.YtaielhafpmjkaaaGreatDoorQ28
import Derived.Test.YtaielhafpmjkaaaGreatDoorQ11
import Derived.Test.YtaielhafpmjkaaaGreatDoorQ20
namespace Go.Proofs.YtaielhafpmjkaaaGreatDoor
open Go.RowKit Go.Shelf Go.Sort
def R1 (v : Value) : Option (DataW Value × List MemPlace) := some (.held v, [])
theorem lawS : Maps.Keyed Tryz.prog 9 := Maps.string_keyed Tryz.underlying9
theorem zeroS (w : World) : (zeroValue 43).run Tryz.prog w = .ok zeroState w := by kernel_rfl
theorem keyS {l : List UInt8} (hl : l.length ≤ maxLen) : keyOf Tryz.prog 9 (.string ⟨l.toArray⟩) = some (.string l) := by
 have h := WideMaps.keyOf_string_mk (P := Tryz.prog) Tryz.underlying9 (s := ⟨l.toArray⟩) (by simpa [ByteArray.size] using hl)
 simpa using h
def MapBlk (w : World) (k : Nat) : Prop := ∃ es c, w.heap[k]? = some (.map es c)
theorem Src.upd {S : Nat → Prop} {w w' : World} {size m : Nat} {A : Option Addr} {news : List Value} (h : Src w size A m news) (hs : 0 < size) (hu : Upd S w w') (hS : ∀ k, S k → MapBlk w k) : Src w' size A m news := by
 refine ⟨h.1, h.2.1, fun hm => ?_⟩
 obtain ⟨b, off, rfl, hlt, hc⟩ := h.form hm hs
 have hl : 0 < news.length := by rw [h.1]; exact Nat.mul_pos hm hs
 have hn : ¬ S b := fun hb => by
  obtain ⟨es, c, hb⟩ := hS b hb
  have h0 := hc 0 (Nat.mul_pos hm hs)
  rw [List.getElem?_eq_getElem hl] at h0
  simp [World.cell?, hb] at h0
 refine ⟨_, rfl, fun j u hj => ?_⟩
 have hjl : j < m * size := by rw [← h.1]; exact (List.getElem?_eq_some_iff.1 hj).1
 rw [Addr.add_lit, hu.cell hlt hn, hc j hjl, hj]
theorem At.upd {S : Nat → Prop} {w w' : World} {size n c : Nat} {A : Option Addr} {xs : List Value} (h : At w size A n c xs) (hs : 0 < size) (hu : Upd S w w') (hS : ∀ k, S k → MapBlk w k) : At w' size A n c xs := ⟨h.1.upd hs hu hS, h.2⟩
theorem StateAt.upd {S : Nat → Prop} {w w' : World} {v : TV} {s : KState} (h : StateAt w v s) (hu : Upd S w w') (hS : ∀ k, S k → MapBlk w k) : StateAt w' v s :=
 ⟨h.holders.upd (by omega) hu hS, h.used.upd (by omega) hu hS, h.marks.upd (by omega) hu hS⟩
theorem MapBlk.upd {S : Nat → Prop} {w w' : World} {k : Nat} (h : MapBlk w k) (hu : Upd S w w') (hk : ¬ S k) : MapBlk w' k := by
 obtain ⟨es, c, h⟩ := h
 exact ⟨es, c, hu.keep h hk⟩
def SetAt (B : Nat) (w : World) (b : Nat) (F : List KState) : Prop :=
 ∃ D : DataW Value, w.ownsMap Tryz.prog 9 R1 b (Maps.size D) D ∧ Maps.size D = F.length ∧ (F.map KState.text).Nodup ∧
  (∀ s ∈ F, ∃ t : TV, (∀ z, D.atKey (.string s.text) z = .held (t.val s)) ∧ StateAt w t s ∧ NewT B t) ∧ (∀ k, Maps.has D k = true → ∃ s ∈ F, k = .string s.text)
theorem ownsMap_size {w : World} {b n : Nat} {D : DataW Value} (h : w.ownsMap Tryz.prog 9 R1 b n D) : w.ownsMap Tryz.prog 9 R1 b (Maps.size D) D := by
 obtain ⟨es, clock, hb, F, hs, rfl⟩ := h
 exact ⟨es, clock, hb, F, by simp [Maps.size, length_sorted], rfl⟩
theorem SetAt.blk {B : Nat} {w : World} {b : Nat} {F : List KState} (h : SetAt B w b F) : MapBlk w b := by
 obtain ⟨D, ⟨es, c, hb, _⟩, _⟩ := h
 exact ⟨es, c, hb⟩
theorem SetAt.made (B : Nat) (w : World) : SetAt B (w.alloc (.map #[] 0)) w.heap.size [] :=
 ⟨.map [], World.ownsMap_made _ _ _ _, rfl, List.nodup_nil, by simp, fun k hk => by cases hk⟩
theorem SetAt.upd {B : Nat} {S : Nat → Prop} {w w' : World} {b : Nat} {F : List KState} (h : SetAt B w b F) (hu : Upd S w w') (hb : ¬ S b) (hS : ∀ k, S k → MapBlk w k) : SetAt B w' b F := by
 obtain ⟨D, ⟨es, clock, h1, h2, h3, h4⟩, h5, h6, h7, h8⟩ := h
 refine ⟨D, ⟨es, clock, hu.keep h1 hb, h2, h3, h4⟩, h5, h6, fun s hs => ?_, h8⟩
 obtain ⟨t, ht, hst, hnt⟩ := h7 s hs
 exact ⟨t, ht, hst.upd hu hS, hnt⟩
theorem SetAt.below {B : Nat} {w w' : World} {b : Nat} {F : List KState} (h : SetAt B w b F) (hb : Below w.heap.size w w') : SetAt B w' b F := by
 obtain ⟨es, c, hm⟩ := h.blk
 refine SetAt.upd (B := B) (S := fun _ => False) h ?_ (fun h => h) (fun _ h => h.elim)
 exact (Upd.of_below hb).mono (fun i hi hle => by omega)
theorem mapTurned_upd {w w' : World} {b : Nat} (h : w.mapTurned w' b) : Upd (fun k => k = b) w w' ∧ MapBlk w' b := by
 obtain ⟨es, c, es', c', h1, rfl⟩ := h
 refine ⟨?_, es', c', ?_⟩
 · have hg := World.mapTurned.grown (w := w) (b := b) ⟨es, c, es', c', h1, rfl⟩
   exact ⟨hg.os, hg.tape, hg.output, hg.size, fun k hk hn => hg.block k hk (by simpa using hn)⟩
 · simp [ChangeMaps.setBlock, lt_of_heap h1]
theorem SetAt.put {B : Nat} {w : World} {b : Nat} {F : List KState} (h : SetAt B w b F) {s : KState} (hn : s.text ∉ F.map KState.text) {t : TV} (hst : StateAt w t s) (hnt : NewT B t) (hl : s.text.length ≤ maxLen) (hF : F.length < 1000000) :
 ∃ w', (Instr.mapUpdate 111 (.map (some b)) (.string ⟨s.text.toArray⟩) (t.val s)).run Tryz.prog w = .ok () w' ∧ SetAt B w' b (F ++ [s]) ∧ Upd (fun k => k = b) w w' := by
 have hblk := h.blk
 obtain ⟨D, h1, h2, h3, h4, h5⟩ := h
 obtain ⟨w', hrun, hown, htr⟩ := h1.store (t := 111) (e := 43) lawS Tryz.underlying111 (by rw [h2]; unfold maxLen; omega) (keyS hl) (val := t.val s) (d := .held (t.val s)) (ps := []) rfl
 obtain ⟨hu, _⟩ := mapTurned_upd htr
 have hmb : ∀ k, k = b → MapBlk w k := fun k hk => by rw [hk]; exact hblk
 have hnot : Maps.has D (.string s.text) = false := by
  cases hh : Maps.has D (.string s.text) with
  | false => rfl
  | true =>
   obtain ⟨s', hs', e⟩ := h5 _ hh
   exact absurd (List.mem_map.2 ⟨s', hs', (Lit.string.inj e).symm⟩) hn
 refine ⟨w', hrun, ⟨D.put (.string s.text) (.held (t.val s)), ownsMap_size hown, ?_, ?_, ?_, ?_⟩, hu⟩
 · rw [Maps.size_put (h1.tidy lawS), hnot]
   simp [h2]
 · rw [List.map_append, List.nodup_append]
   exact ⟨h3, by simp, fun a ha b hb e => by simp at hb; rw [e, hb] at ha; exact hn ha⟩
 · intro x hx
   rcases List.mem_append.1 hx with hx | hx
   · obtain ⟨t', ht', hst', hnt'⟩ := h4 x hx
     refine ⟨t', fun z => ?_, hst'.upd hu hmb, hnt'⟩
     rw [Maps.atKey_put_other (fun e => by injection e with e; exact hn (by rw [← e]; exact List.mem_map.2 ⟨x, hx, rfl⟩))]
     exact ht' z
   · rw [List.mem_singleton] at hx
     subst hx
     exact ⟨t, fun z => Maps.atKey_put_same h1.isMap (lawS.key (keyS hl)) _ _, hst.upd hu hmb, hnt⟩
 · intro k hk
   by_cases e : k = .string s.text
   · exact ⟨s, by simp, e⟩
   · rw [Maps.has_put_other e] at hk
     obtain ⟨s', hs', e'⟩ := h5 k hk
     exact ⟨s', List.mem_append_left _ hs', e'⟩
theorem SetAt.del {B : Nat} {w : World} {b : Nat} {F : List KState} (h : SetAt B w b F) {s : KState} (hs : s ∈ F) (hl : s.text.length ≤ maxLen) (ty : TypeId) :
 ∃ w', (Builtin.delete_ #[111, 9] ty #[.map (some b), .string ⟨s.text.toArray⟩]).run Tryz.prog w = .ok (.tuple #[]) w' ∧ SetAt B w' b (F.filter (fun x => x.text != s.text)) ∧ Upd (fun k => k = b) w w' := by
 have hblk := h.blk
 obtain ⟨D, h1, h2, h3, h4, h5⟩ := h
 obtain ⟨w', hrun, hown, htr⟩ := h1.drop (t := 111) (e := 43) lawS Tryz.underlying111 (keyS hl) ty
 obtain ⟨hu, _⟩ := mapTurned_upd htr
 have hmb : ∀ k, k = b → MapBlk w k := fun k hk => by rw [hk]; exact hblk
 have hyes : Maps.has D (.string s.text) = true := by
  obtain ⟨t, ht, _⟩ := h4 s hs
  exact Maps.has_true_of_atKey ht
 have hflen : ∀ (F : List KState), (F.map KState.text).Nodup → s ∈ F → (F.filter (fun x => x.text != s.text)).length + 1 = F.length := by
  intro F
  induction F with
  | nil => intro _ h; cases h
  | cons a F ih =>
   intro hnd hm
   rw [List.map_cons, List.nodup_cons] at hnd
   by_cases e : a.text = s.text
   · have hrest : F.filter (fun x => x.text != s.text) = F := by
      apply List.filter_eq_self.2
      intro x hx
      have : x.text ≠ s.text := fun e' => hnd.1 (by rw [e, ← e']; exact List.mem_map.2 ⟨x, hx, rfl⟩)
      simpa using this
     rw [List.filter_cons_of_neg (by simp [e]), hrest, List.length_cons]
   · have hm' : s ∈ F := by
      rcases List.mem_cons.1 hm with rfl | hm
      · exact absurd rfl e
      · exact hm
     rw [List.filter_cons_of_pos (by simpa using e), List.length_cons, List.length_cons, ih hnd.2 hm']
 refine ⟨w', hrun, ⟨D.del (.string s.text), ownsMap_size hown, ?_, ?_, ?_, ?_⟩, hu⟩
 · have := Maps.size_del (k := .string s.text) (h1.tidy lawS)
   rw [hyes] at this
   have h7 := hflen F h3 hs
   simp at this
   omega
 · exact List.Pairwise.sublist (List.Sublist.map _ List.filter_sublist) h3
 · intro x hx
   obtain ⟨hxF, hne⟩ := List.mem_filter.1 hx
   have hne' : x.text ≠ s.text := by simpa using hne
   obtain ⟨t', ht', hst', hnt'⟩ := h4 x hxF
   refine ⟨t', fun z => ?_, hst'.upd hu hmb, hnt'⟩
   rw [Maps.atKey_del_other (fun e => by injection e with e; exact hne' e)]
   exact ht' z
 · intro k hk
   by_cases e : k = .string s.text
   · rw [e, Maps.has_del_same] at hk; cases hk
   · rw [Maps.has_del_other e] at hk
     obtain ⟨s', hs', e'⟩ := h5 k hk
     refine ⟨s', List.mem_filter.2 ⟨hs', ?_⟩, e'⟩
     have : s'.text ≠ s.text := fun e2 => e (by rw [e', e2])
     simpa using this
theorem SetAt.len {B : Nat} {w : World} {b : Nat} {F : List KState} (h : SetAt B w b F) (ty : TypeId) : (Builtin.len_ #[111] ty #[.map (some b)]).run Tryz.prog w = .ok (.int .i64 (F.length : Nat)) w := by
 obtain ⟨D, h1, h2, _⟩ := h
 rw [← h2]
 exact h1.len (e := 43) Tryz.underlying111 ty
theorem R1_inj {v : Value} {d : DataW Value} {ps : List MemPlace} (h : R1 v = some (d, ps)) : d = .held v := by
 simp only [R1, Option.some.injEq, Prod.mk.injEq] at h
 exact h.1.symm
theorem SetAt.look {B : Nat} {w : World} {b : Nat} {F : List KState} (h : SetAt B w b F) {s : KState} (hs : s ∈ F) (hl : s.text.length ≤ maxLen) :
 ∃ t : TV, (Instr.lookup 111 (.map (some b)) (.string ⟨s.text.toArray⟩) false).run Tryz.prog w = .ok (t.val s) w ∧ StateAt w t s ∧ NewT B t := by
 obtain ⟨D, h1, h2, h3, h4, h5⟩ := h
 obtain ⟨t, ht, hst⟩ := h4 s hs
 obtain ⟨v, ps, hrun, hv⟩ := h1.lookup (t := 111) (e := 43) lawS Tryz.underlying111 (zeroS w) (zd := .held zeroState) (zp := []) rfl (keyS hl)
 have h6 := R1_inj hv
 rw [ht] at h6
 injection h6 with h6
 subst h6
 exact ⟨t, hrun, hst⟩
def stV (d : Int) (a1 : Option Addr) (n1 c1 : Nat) (a2 : Option Addr) (n2 c2 : Nat) (a3 : Option Addr) (n3 c3 : Nat) : Value := .agg #[.int .i64 d, .slice a1 n1 c1, .slice a2 n2 c2, .slice a3 n3 c3]
theorem SetAt.lookOk {B : Nat} {w : World} {b : Nat} {F : List KState} (h : SetAt B w b F) {tx : List UInt8} (hl : tx.length ≤ maxLen) :
 ∃ d a1 n1 c1 a2 n2 c2 a3 n3 c3, (Instr.lookup 111 (.map (some b)) (.string ⟨tx.toArray⟩) true).run Tryz.prog w = .ok (.tuple #[stV d a1 n1 c1 a2 n2 c2 a3 n3 c3, .bool (decide (tx ∈ F.map KState.text))]) w := by
 obtain ⟨D, h1, h2, h3, h4, h5⟩ := h
 obtain ⟨v, ps, hrun, hv⟩ := h1.look_ok (t := 111) (e := 43) lawS Tryz.underlying111 (zeroS w) (zd := .held zeroState) (zp := []) rfl (keyS hl)
 have h6 := R1_inj hv
 by_cases hm : tx ∈ F.map KState.text
 · obtain ⟨s, hs, rfl⟩ := List.mem_map.1 hm
   obtain ⟨t, ht, hst⟩ := h4 s hs
   rw [ht] at h6
   injection h6 with h6
   subst h6
   rw [Maps.has_true_of_atKey ht] at hrun
   refine ⟨s.day, t.h.A, s.holders.length, t.h.c, t.u.A, s.used.length, t.u.c, t.m.A, s.marks.length, t.m.c, ?_⟩
   rw [decide_eq_true hm]
   exact hrun
 · have hnot : Maps.has D (.string tx) = false := by
    cases hh : Maps.has D (.string tx) with
    | false => rfl
    | true =>
     obtain ⟨s', hs', e⟩ := h5 _ hh
     exact absurd (List.mem_map.2 ⟨s', hs', (Lit.string.inj e).symm⟩) hm
   rw [Maps.atKey_of_not_has hnot] at h6
   injection h6 with h6
   subst h6
   rw [hnot] at hrun
   refine ⟨0, none, 0, 0, none, 0, 0, none, 0, 0, ?_⟩
   rw [decide_eq_false hm]
   exact hrun
theorem nodup_perm {α : Type} [BEq α] [LawfulBEq α] : ∀ {l1 l2 : List α}, l1.Nodup → l2.Nodup → (∀ x, x ∈ l1 ↔ x ∈ l2) → l1.Perm l2
 | [], l2, _, _, h => by
  cases l2 with
  | nil => exact List.Perm.nil
  | cons a l => exact absurd ((h a).2 (by simp)) (by simp)
 | a :: l1, l2, h1, h2, h => by
  rw [List.nodup_cons] at h1
  have ha : a ∈ l2 := (h a).1 (by simp)
  refine List.Perm.trans (List.Perm.cons a (nodup_perm h1.2 (h2.erase a) (fun x => ?_))) (List.perm_cons_erase ha).symm
  rw [List.Nodup.mem_erase_iff h2]
  constructor
  · intro hx
    exact ⟨fun e => h1.1 (e ▸ hx), (h x).1 (List.mem_cons_of_mem _ hx)⟩
  · rintro ⟨hne, hx⟩
    rcases List.mem_cons.1 ((h x).2 hx) with e | e
    · exact absurd e hne
    · exact e
theorem SetAt.keys {B : Nat} {w : World} {b : Nat} {F : List KState} (h : SetAt B w b F) : ∃ D : DataW Value, w.ownsMap Tryz.prog 9 R1 b (Maps.size D) D ∧ Maps.size D = F.length ∧ (strKeys D).Perm (F.map KState.text) := by
 obtain ⟨D, h1, h2, h3, h4, h5⟩ := h
 refine ⟨D, h1, h2, ?_⟩
 obtain ⟨es, rfl, hap⟩ := h1.tidy lawS
 have hkeys : ∀ p ∈ es, ∃ s ∈ F, p.1 = .string s.text := fun p hp => by
  have hlit : WideAt.IsKeyLit p.1 := by
   obtain ⟨es', c, _, Ft, _, he⟩ := h1
   injection he with he
   rw [he] at hp
   obtain ⟨v, hv⟩ := Maps.fit_keys Ft p ((WideShapes.sorted_perm _).mem_iff.1 hp)
   exact lawS.key hv
  have hh : Maps.has (DataW.map es) p.1 = true := by
   rw [Maps.has_eq, List.any_eq_true]
   exact ⟨p, hp, WideAt.sameKey_self hlit⟩
  obtain ⟨s, hs, e⟩ := h5 _ hh
  exact ⟨s, hs, e⟩
 refine nodup_perm ?_ h3 (fun x => ?_)
 · show (es.map fun p => strOf p.1).Nodup
   rw [List.Nodup, List.pairwise_map]
   refine List.Pairwise.imp_of_mem ?_ hap
   intro p q hp hq hne e
   obtain ⟨s, _, hs⟩ := hkeys p hp
   obtain ⟨s', _, hs'⟩ := hkeys q hq
   rw [hs, hs'] at e hne
   simp only [strOf] at e
   exact hne (by rw [e])
 · show x ∈ es.map (fun p => strOf p.1) ↔ _
   constructor
   · intro hx
     obtain ⟨p, hp, rfl⟩ := List.mem_map.1 hx
     obtain ⟨s, hs, e⟩ := hkeys p hp
     rw [e]
     exact List.mem_map.2 ⟨s, hs, rfl⟩
   · intro hx
     obtain ⟨s, hs, rfl⟩ := List.mem_map.1 hx
     obtain ⟨t, ht, _⟩ := h4 s hs
     have hh := Maps.has_true_of_atKey ht
     rw [Maps.has_eq, List.any_eq_true] at hh
     obtain ⟨p, hp, hsame⟩ := hh
     exact List.mem_map.2 ⟨p, hp, by rw [WideAt.sameKey_eq hsame]; rfl⟩
end Go.Proofs.YtaielhafpmjkaaaGreatDoor
namespace Go.Proofs.YtaielhafpmjkaaaGreatDoor
open Go.RowKit Go.Shelf
attribute [local go_sem] stillO stillUpon turnsUpon
theorem Tab.upd {S : Nat → Prop} {w w' : World} (h : Tab w) (hu : Upd S w w') (hS : ∀ k, S k → MapBlk w k) : Tab w' := by
 unfold Tab Lib.TabIs World.var? at *
 cases hg : Tryz.prog.globalNamed "internal/strconv.uint64pow10" with
 | none => simp [hg] at h
 | some g =>
  simp only [hg, Option.bind_some] at h ⊢
  have hlt : g < w.heap.size := by
   rcases Nat.lt_or_ge g w.heap.size with h' | h'
   · exact h'
   · rw [Array.getElem?_eq_none h'] at h; simp at h
  have hn : ¬ S g := fun hs => by
   obtain ⟨es, c, hb⟩ := hS g hs
   rw [hb] at h
   simp at h
  rw [hu.block g hlt hn]
  exact h
theorem text_small {s : KState} (h : Ranged s) : s.text.length ≤ 200000 := by
 have h1 := itoa_le h.day
 have h2 := encH_len h.holders
 have h3 := encM_len h.marks
 have h4 := h.lh
 have h5 := h.lu
 have h6 := h.lm
 simp only [KState.text, List.length_append, List.length_singleton]
 have h7 : (encU s.used).length = s.used.length := by simp [encU]
 omega
theorem text_max {s : KState} (h : Ranged s) : s.text.length ≤ maxLen := Nat.le_trans (text_small h) (by unfold maxLen; omega)
def metF (F : List KState) (s : KState) : List KState := cond (decide (s.text ∈ F.map KState.text)) F (F ++ [s])
def metG (F G : List KState) (s : KState) : List KState := cond (decide (s.text ∈ F.map KState.text)) G (G ++ [s])
def MeetPost (B bf bg : Nat) (F G : List KState) (s : KState) (w : World) (e : Ending) (w' : World) : Prop :=
 e = .returned (.tuple #[]) ∧ Upd (fun k => k = bf ∨ k = bg) w w' ∧ SetAt B w' bf (metF F s) ∧ SetAt B w' bg (metG F G s)
set_option maxRecDepth 100000 in
set_option maxHeartbeats 2000000 in
theorem meet_any {B : Nat} (t : TV) (s : KState) (cf cg bf bg : Nat) (F G : List KState) (w : World) (hst : StateAt w t s) (hnt : NewT B t) (hR : Ranged s) (hT : Tab w) (hf : SetAt B w bf F) (hg : SetAt B w bg G) (hcf : w.cell? ⟨cf, 0, none⟩ = some (.map (some bf))) (hcg : w.cell? ⟨cg, 0, none⟩ = some (.map (some bg))) (hbg : bf ≠ bg)
 (hFl : F.length < 1000000) (hGl : G.length < 1000000) (hGF : s.text ∈ G.map KState.text → s.text ∈ F.map KState.text) :
 Calls Tryz.prog 80 #[t.val s, .pointer (some ⟨cf, 0, none⟩), .pointer (some ⟨cg, 0, none⟩)] w (MeetPost B bf bg F G s w) := by
 obtain ⟨⟨thA, thc⟩, ⟨tuA, tuc⟩, ⟨tmA, tmc⟩⟩ := t
 have HST := Lib.hid hst; clear hst
 have HNT := Lib.hid hnt; clear hnt
 have HF := Lib.hid hf; clear hf
 have HG := Lib.hid hg; clear hg
 have HGF := Lib.hid hGF; clear hGF
 have HTX := text_max hR
 have HTM := Lib.hid HTX; clear HTX
 have HR := Lib.hid hR; clear hR
 have HT := Lib.hid hT; clear hT
 simp only [TV.val, TV.cells, KState.cells]
 have lf := World.block_lt_of_cell? w _ hcf
 have lg := World.block_lt_of_cell? w _ hcg
 simp only at lf lg
 go_enter Tryz.func80, Tryz.ntmps80
 go_upto_region 1 with (fail)
 obtain ⟨W0, HW0⟩ : ∃ W0, Hid (W0 = w.alloc (.cells #[.int .i64 s.day, .slice thA s.holders.length thc, .slice tuA s.used.length tuc, .slice tmA s.marks.length tmc] 43)) := ⟨_, rfl⟩
 rw [← HW0.out]
 have HB : Hid (Below w.heap.size w W0) := by show Below _ _ _; rw [HW0.out]; exact Below.alloc' (Below.refl _ _) _
 have hbx : W0.heap[w.heap.size]? = some (.cells #[.int .i64 s.day, .slice thA s.holders.length thc, .slice tuA s.used.length tuc, .slice tmA s.marks.length tmc] 43 (0, 0)) := by rw [HW0.out]; exact heap_alloc_new w _
 obtain ⟨x0, x1, x2, x3⟩ := kc4 hbx
 have yf : ∀ z : Bl W0, z.val.cell? ⟨cf, 0, none⟩ = some (.map (some bf)) := fun z => z.cell (((bcell HB.out).1 _ _ lf).trans hcf)
 have yg : ∀ z : Bl W0, z.val.cell? ⟨cg, 0, none⟩ = some (.map (some bg)) := fun z => z.cell (((bcell HB.out).1 _ _ lg).trans hcg)
 have HEN : Hid (∀ z : Bl W0, Calls Tryz.prog 20 #[.agg #[.int .i64 s.day, .slice thA s.holders.length thc, .slice tuA s.used.length tuc, .slice tmA s.marks.length tmc]] z.val (RetB (.string ⟨s.text.toArray⟩) z.val)) := fun z =>
  encode_any ⟨⟨thA, thc⟩, ⟨tuA, tuc⟩, ⟨tmA, tmc⟩⟩ s z.val (HST.out.below (Below.step HB.out z.prop)) HR.out (HT.out.below (Below.step HB.out z.prop))
 change Code.wp _ _ _ _ (Bl.val (⟨W0, Below.refl _ _⟩ : Bl W0))
 generalize (⟨W0, Below.refl _ _⟩ : Bl W0) = s0
 clear hcf hcg hbx
 obtain ⟨tx, htx⟩ : ∃ tx, tx = s.text := ⟨_, rfl⟩
 rw [← htx] at HEN HTM HGF
 have HE := Lib.hid htx; clear htx
 go_wp2_with (go_at_call 20; refine (HEN.out _).mono ?_; rintro e z ⟨rfl, hz⟩; obtain ⟨z, rfl⟩ := Bl.on hz; clear hz; refine Hid.out ?_)
 refine Lib.hid ?_
 have hFz : SetAt B z.val bf F := HF.out.below (Below.step HB.out z.prop)
 have hGz : SetAt B z.val bg G := HG.out.below (Below.step HB.out z.prop)
 obtain ⟨d, a1, n1, c1, a2, n2, c2, a3, n3, c3, hrun⟩ := hFz.lookOk HTM.out
 unfold stV at hrun
 have yfz := yf z
 have ygz := yg z
 have x0z := x0 z
 have x1z := x1 z
 have x2z := x2 z
 have x3z := x3 z
 have HUz : Hid (Below w.heap.size w z.val) := Below.step HB.out z.prop
 have HFz := Lib.hid hFz; clear hFz
 have HGz := Lib.hid hGz; clear hGz
 have HSz := Lib.hid (HST.out.below HUz.out)
 have lz : w.heap.size < z.val.heap.size := by
  have h1 := World.block_lt_of_cell? _ _ x0z
  exact h1
 have lfz : cf < z.val.heap.size := by omega
 have lgz : cg < z.val.heap.size := by omega
 generalize z.val = Z at hrun yfz ygz x0z x1z x2z x3z HUz HFz HGz HSz lz lfz lgz ⊢
 clear x0 x1 x2 x3 yf yg HEN
 cases q : decide (tx ∈ F.map KState.text) with
 | true =>
  rw [q] at hrun
  go_wp2
  go_end0
  have hU : Upd (fun k => k = bf ∨ k = bg) w (Z.alloc (.cells #[.int .i64 d, .slice a1 n1 c1, .slice a2 n2 c2, .slice a3 n3 c3] 43)) := ((Upd.of_below HUz.out).mono (fun i hi hle => by omega)).alloc _
  have hx := HE.out
  subst hx
  refine ⟨rfl, hU, ?_, ?_⟩
  · rw [metF, q]; exact HFz.out.below (Below.alloc' (Below.refl _ _) _)
  · rw [metG, q]; exact HGz.out.below (Below.alloc' (Below.refl _ _) _)
 | false =>
  rw [q] at hrun
  go_wp2
  obtain ⟨Y, HY⟩ : ∃ Y, Hid (Y = Z.alloc (.cells #[.int .i64 d, .slice a1 n1 c1, .slice a2 n2 c2, .slice a3 n3 c3] 43)) := ⟨_, rfl⟩
  rw [← HY.out]
  have hby : Below Z.heap.size Z Y := by rw [HY.out]; exact Below.alloc' (Below.refl _ _) _
  have yf' := ((bcell hby).1 _ _ lfz).trans yfz
  have yg' := ((bcell hby).1 _ _ lgz).trans ygz
  have x0' := ((bcell hby).1 _ _ lz).trans x0z
  have x1' := ((bcell hby).1 _ _ lz).trans x1z
  have x2' := ((bcell hby).1 _ _ lz).trans x2z
  have x3' := ((bcell hby).1 _ _ lz).trans x3z
  have HFy := Lib.hid (HFz.out.below hby)
  have HGy := Lib.hid (HGz.out.below hby)
  have HSy := Lib.hid (HSz.out.below hby)
  have HUy : Hid (Below w.heap.size w Y) := Below.step HUz.out hby
  clear hrun yfz ygz x0z x1z x2z x3z hby
  have hx := HE.out
  obtain ⟨W6, hr6, hS6, hU6⟩ := (HFy.out.upd (S := fun _ => False) (w' := Y.drew) ((Upd.refl _ _).drew) (fun h => h) (fun _ h => h.elim)).put (s := s) (by rw [← hx]; simpa using q) (t := ⟨⟨thA, thc⟩, ⟨tuA, tuc⟩, ⟨tmA, tmc⟩⟩) (HSy.out.upd (S := fun _ => False) ((Upd.refl _ _).drew) (fun _ h => h.elim)) HNT.out (by rw [← hx]; exact HTM.out) hFl
  have hmb : ∀ k, k = bf → MapBlk Y.drew k := fun k hk => by rw [hk]; exact HFy.out.blk
  have hG6 : SetAt B W6 bg G := (HGy.out.upd (S := fun _ => False) (w' := Y.drew) ((Upd.refl _ _).drew) (fun h => h) (fun _ h => h.elim)).upd hU6 (fun e => hbg e.symm) hmb
  have hst6 : StateAt W6 ⟨⟨thA, thc⟩, ⟨tuA, tuc⟩, ⟨tmA, tmc⟩⟩ s := (HSy.out.upd (S := fun _ => False) (w' := Y.drew) ((Upd.refl _ _).drew) (fun _ h => h.elim)).upd hU6 hmb
  obtain ⟨W7, hr7, hS7, hU7⟩ := hG6.put (s := s) (by
   intro hm
   have := HGF.out (by rw [hx]; exact hm)
   rw [decide_eq_false_iff_not] at q
   exact q this) hst6 HNT.out (by rw [← hx]; exact HTM.out) hGl
  rw [← hx] at hr6 hr7
  simp only [TV.val, TV.cells, KState.cells] at hr6 hr7
  have hkc : ∀ (p o : Nat) (u : Value), Y.cell? ⟨p, o, none⟩ = some u → W6.cell? ⟨p, o, none⟩ = some u := fun p o u h => by
   have hl := World.block_lt_of_cell? Y _ h
   have hn : p ≠ bf := by
    rintro rfl
    obtain ⟨es, c, hb⟩ := HFy.out.blk
    simp [World.cell?, hb] at h
   exact (hU6.cell (w := Y.drew) (b := p) (o := o) hl hn).trans h
  have yf6 := hkc _ _ _ yf'
  have yg6 := hkc _ _ _ yg'
  have x06 := hkc _ _ _ x0'
  have x16 := hkc _ _ _ x1'
  have x26 := hkc _ _ _ x2'
  have x36 := hkc _ _ _ x3'
  have HU : Hid (Upd (fun k => k = bf ∨ k = bg) w W7) := by
   have h1 : Upd (fun k => k = bf ∨ k = bg) w Y.drew := ((Upd.of_below HUy.out).mono (fun i hi hle => by omega)).drew
   exact (h1.trans hU6 (fun i hi e => .inl e)).trans hU7 (fun i hi e => .inr e)
  have HS6 : Hid (SetAt B W7 bf (F ++ [s])) := hS6.upd hU7 hbg (fun k hk => by rw [hk]; exact hG6.blk)
  have HS7 := Lib.hid hS7
  have HHX := Lib.hid hx
  clear hkc hx hS6 hS7 hU6 hU7 hG6 hst6 hmb
  refine wp_region_once (w1 := W6) 7 6 (by omega) (by simp) (by kernel_rfl) (by kernel_rfl) ?_
  simp only [List.take_succ_cons, List.take_zero, List.drop_succ_cons, List.drop_zero]
  repeat (refine wpO_still rfl (fun K hK => ?_); go_simp; refine hK _ ?_; clear hK K)
  refine wpO_turn rfl rfl ?_ ?_
  · go_simp
  go_simp
  refine wpO_nil ?_
  gi_wp2
  go_wp2
  go_end0
  refine ⟨rfl, HU.out, ?_, ?_⟩
  · rw [metF, ← HHX.out, q]; exact HS6.out
  · rw [metG, ← HHX.out, q]; exact HS7.out
end Go.Proofs.YtaielhafpmjkaaaGreatDoor
namespace Go.Proofs.YtaielhafpmjkaaaGreatDoor
open Go.RowKit
inductive Reach (C : KCon) (p : Int) (l : List KState) : KState → Prop
 | base {s : KState} : s ∈ l → Reach C p l s
 | step {s : KState} {x : Int} : Reach C p l s → s.day < C.days → x ∈ C.hid s p → Reach C p l (C.next s x)
theorem hid_mem {C : KCon} {s : KState} {p x : Int} (h : x ∈ C.hid s p) : ∃ (i : Nat) (a : KAct), x = i ∧ C.acts[i]? = some a ∧ hidB C s p i = true := by
 unfold KCon.hid hidTo at h
 obtain ⟨i, hi, rfl⟩ := List.mem_map.1 h
 obtain ⟨h1, h2⟩ := List.mem_filter.1 hi
 have hl : i < C.acts.length := List.mem_range.1 h1
 exact ⟨i, _, rfl, List.getElem?_eq_getElem hl, h2⟩
theorem mem_hid {C : KCon} {s : KState} {p : Int} {i : Nat} (hl : i < C.acts.length) (h : hidB C s p i = true) : (i : Int) ∈ C.hid s p :=
 List.mem_map.2 ⟨i, List.mem_filter.2 ⟨List.mem_range.2 hl, h⟩, rfl⟩
theorem next_act {C : KCon} {s : KState} {i : Nat} {a : KAct} (ha : C.acts[i]? = some a) : C.next s i = C.act i a s := by
 have h : ((i : Int) == -1) = false := by simp
 simp only [KCon.next, h, cond_false, Int.toNat_natCast, ha]
theorem stepErr_act {C : KCon} {s : KState} (hO : StateOk C s) (hd : s.day < C.days) {i : Nat} (hi : i < C.acts.length) : C.stepErr s i = 0 := by
 have h1 : C.okState s = true := (okState_iff C s).2 hO
 have h2 : decide ((i : Int) < -1) = false := by simp
 have h3 : decide ((C.acts.length : Int) ≤ (i : Int)) = false := by simp; omega
 have h4 : (s.day == C.days) = false := by simp; omega
 simp only [KCon.stepErr, h1, h2, h3, h4, Bool.not_true, cond_false]
theorem hid_next {C : KCon} {s : KState} {p x : Int} (hO : StateOk C s) (hd : s.day < C.days) (h : x ∈ C.hid s p) : StateOk C (C.next s x) ∧ C.stepErr s x = 0 := by
 obtain ⟨i, a, rfl, ha, _⟩ := hid_mem h
 rw [next_act ha]
 exact ⟨act_ok hO ha, stepErr_act hO hd (List.getElem?_eq_some_iff.1 ha).1⟩
structure Inv (C : KCon) (p : Int) (l F G X : List KState) : Prop where
 ok : ∀ s ∈ F, StateOk C s
 reach : ∀ s ∈ F, Reach C p l s
 sub : ∀ s ∈ G, s ∈ F
 closed : ∀ s ∈ F, s ∉ G → s ∉ X → s.day < C.days → ∀ x ∈ C.hid s p, C.next s x ∈ F
theorem metF_mem {F : List KState} {s x : KState} : x ∈ metF F s ↔ x ∈ F ∨ x = s := by
 unfold metF
 by_cases h : s ∈ F
 · rw [decide_eq_true (text_mem.2 h), cond_true]
   constructor
   · exact .inl
   · rintro (hx | rfl)
     · exact hx
     · exact h
 · rw [decide_eq_false (fun hm => h (text_mem.1 hm)), cond_false, List.mem_append, List.mem_singleton]
theorem metG_mem {F G : List KState} {s x : KState} : x ∈ metG F G s → x ∈ G ∨ x = s := by
 unfold metG
 by_cases h : s ∈ F
 · rw [decide_eq_true (text_mem.2 h), cond_true]
   exact .inl
 · rw [decide_eq_false (fun hm => h (text_mem.1 hm)), cond_false, List.mem_append, List.mem_singleton]
   exact id
theorem metG_sub {F G : List KState} {s x : KState} (hx : x ∈ G) : x ∈ metG F G s := by
 unfold metG
 cases decide (s.text ∈ F.map KState.text) with
 | true => exact hx
 | false => exact List.mem_append_left _ hx
theorem metG_new {F G : List KState} {s x : KState} (hx : x ∈ metF F s) (hn : x ∉ F) : x ∈ metG F G s := by
 unfold metG
 unfold metF at hx
 cases h : decide (s.text ∈ F.map KState.text) with
 | true => rw [h] at hx; exact absurd hx hn
 | false =>
  rw [h, cond_false] at hx
  rcases List.mem_append.1 hx with hx | hx
  · exact absurd hx hn
  · exact List.mem_append_right _ hx
theorem met_len (F G : List KState) (s : KState) (d : Nat) (h : F.length = G.length + d) : (metF F s).length = (metG F G s).length + d ∧ (metF F s).length ≤ F.length + 1 ∧ F.length ≤ (metF F s).length := by
 unfold metF metG
 cases decide (s.text ∈ F.map KState.text) with
 | true => exact ⟨h, by simp, by simp⟩
 | false => simp only [cond_false, List.length_append, List.length_singleton]; omega
theorem Inv.meet {C : KCon} {p : Int} {l F G X : List KState} (h : Inv C p l F G X) {s : KState} (hs : StateOk C s) (hr : Reach C p l s) : Inv C p l (metF F s) (metG F G s) X := by
 refine ⟨fun x hx => ?_, fun x hx => ?_, fun x hx => ?_, fun x hx hg hX hd y hy => ?_⟩
 · rcases metF_mem.1 hx with hx | rfl
   · exact h.ok x hx
   · exact hs
 · rcases metF_mem.1 hx with hx | rfl
   · exact h.reach x hx
   · exact hr
 · rcases metG_mem hx with hx | rfl
   · exact metF_mem.2 (.inl (h.sub x hx))
   · exact metF_mem.2 (.inr rfl)
 · have hxF : x ∈ F := Classical.byContradiction fun hn => hg (metG_new hx hn)
   exact metF_mem.2 (.inl (h.closed x hxF (fun hm => hg (metG_sub hm)) hX hd y hy))
theorem filter_text {G : List KState} {s x : KState} : x ∈ G.filter (fun y => y.text != s.text) ↔ x ∈ G ∧ x ≠ s := by
 rw [List.mem_filter]
 constructor
 · rintro ⟨h1, h2⟩
   exact ⟨h1, fun e => by subst e; simp at h2⟩
 · rintro ⟨h1, h2⟩
   exact ⟨h1, by simpa using fun e => h2 (text_inj e)⟩
theorem Inv.take {C : KCon} {p : Int} {l F G : List KState} (h : Inv C p l F G []) (s : KState) : Inv C p l F (G.filter (fun y => y.text != s.text)) [s] := by
 refine ⟨h.ok, h.reach, fun x hx => h.sub x (filter_text.1 hx).1, fun x hx hg hX hd y hy => ?_⟩
 refine h.closed x hx (fun hm => hg (filter_text.2 ⟨hm, fun e => hX (by rw [e]; simp)⟩)) (by simp) hd y hy
theorem Inv.done {C : KCon} {p : Int} {l F G : List KState} {s : KState} (h : Inv C p l F G [s]) (hc : s.day < C.days → ∀ x ∈ C.hid s p, C.next s x ∈ F) : Inv C p l F G [] := by
 refine ⟨h.ok, h.reach, h.sub, fun x hx hg _ hd y hy => ?_⟩
 by_cases e : x = s
 · subst e; exact hc hd y hy
 · exact h.closed x hx hg (by simpa using e) hd y hy
theorem Inv.start (C : KCon) (p : Int) (l : List KState) : Inv C p l [] [] [] := ⟨by simp, by simp, by simp, by simp⟩
structure IsClo (C : KCon) (p : Int) (l r : List KState) : Prop where
 sorted : (r.map KState.text).Pairwise (· < ·)
 few : r.length ≤ 300
 ok : ∀ s ∈ r, StateOk C s
 reach : ∀ s ∈ r, Reach C p l s
 has : ∀ s ∈ l, s ∈ r
 closed : ∀ s ∈ r, s.day < C.days → ∀ x ∈ C.hid s p, C.next s x ∈ r
def TooMany (C : KCon) (p : Int) (l : List KState) : Prop := ∃ F : List KState, F.Nodup ∧ 300 < F.length ∧ ∀ s ∈ F, Reach C p l s
theorem ConAt.upd {S : Nat → Prop} {w w' : World} {v : CV} {C : KCon} (h : ConAt w v C) (hu : Upd S w w') (hS : ∀ k, S k → MapBlk w k) : ConAt w' v C := by
 refine ⟨h.holders.upd (by omega) hu hS, h.units.upd (by omega) hu hS, h.acts.upd (by omega) hu hS, ?_, h.off.upd (by omega) hu hS⟩
 obtain ⟨ss, h1, h2, h3⟩ := h.clauses
 exact ⟨ss, h1, h2.upd (by omega) hu hS, fun i k t hk ht => (h3 i k t hk ht).upd (by omega) hu hS⟩
theorem StatesAt.upd {S : Nat → Prop} {w w' : World} {v : SV} {l : List KState} (h : StatesAt w v l) (hu : Upd S w w') (hS : ∀ k, S k → MapBlk w k) : StatesAt w' v l := by
 obtain ⟨ts, h1, h2, h3⟩ := h
 exact ⟨ts, h1, h2.upd (by omega) hu hS, fun i s t hs ht => (h3 i s t hs ht).upd hu hS⟩
theorem Upd.cellM {S : Nat → Prop} {w w' : World} (hu : Upd S w w') (hS : ∀ k, S k → MapBlk w k) {p o : Nat} {u : Value} (h : w.cell? ⟨p, o, none⟩ = some u) : w'.cell? ⟨p, o, none⟩ = some u := by
 have hl := World.block_lt_of_cell? w _ h
 have hn : ¬ S p := fun hs => by
  obtain ⟨es, c, hb⟩ := hS p hs
  simp [World.cell?, hb] at h
 exact (hu.cell hl hn).trans h
end Go.Proofs.YtaielhafpmjkaaaGreatDoor
namespace Go.Proofs.YtaielhafpmjkaaaGreatDoor
open Go.RowKit Go.Shelf Go.Sort
def StatesN (B : Nat) (w : World) (v : SV) (l : List KState) : Prop :=
 NewSV B v ∧ ∃ ts : List TV, ts.length = l.length ∧ At w 4 v.A l.length v.c ((l.zip ts).flatMap (fun p => TV.cells p.2 p.1)) ∧ ∀ (i : Nat) (s : KState) (t : TV), l[i]? = some s → ts[i]? = some t → StateAt w t s ∧ NewT B t
theorem StatesN.at {B : Nat} {w : World} {v : SV} {l : List KState} (h : StatesN B w v l) : StatesAt w v l := by
 obtain ⟨_, ts, h1, h2, h3⟩ := h
 exact ⟨ts, h1, h2, fun i s t hs ht => (h3 i s t hs ht).1⟩
theorem StatesN.below {B : Nat} {w w' : World} {v : SV} {l : List KState} (h : StatesN B w v l) (hb : Below w.heap.size w w') : StatesN B w' v l := by
 obtain ⟨h0, ts, h1, h2, h3⟩ := h
 exact ⟨h0, ts, h1, h2.below (by omega) hb, fun i s t hs ht => ⟨(h3 i s t hs ht).1.below hb, (h3 i s t hs ht).2⟩⟩
theorem StatesN.mono {B B' : Nat} {w : World} {v : SV} {l : List KState} (h : StatesN B w v l) (hB : B' ≤ B) : StatesN B' w v l := by
 obtain ⟨h0, ts, h1, h2, h3⟩ := h
 exact ⟨h0.mono hB, ts, h1, h2, fun i s t hs ht => ⟨(h3 i s t hs ht).1, (h3 i s t hs ht).2.mono hB⟩⟩
theorem StatesN.upd {S : Nat → Prop} {B : Nat} {w w' : World} {v : SV} {l : List KState} (h : StatesN B w v l) (hu : Upd S w w') (hS : ∀ k, S k → MapBlk w k) : StatesN B w' v l := by
 obtain ⟨h0, ts, h1, h2, h3⟩ := h
 exact ⟨h0, ts, h1, h2.upd (by omega) hu hS, fun i s t hs ht => ⟨(h3 i s t hs ht).1.upd hu hS, (h3 i s t hs ht).2⟩⟩
theorem StatesN.updLow {S : Nat → Prop} {B : Nat} {w w' : World} {v : SV} {l : List KState} (h : StatesN B w v l) (hu : Upd S w w') (hS : ∀ k, S k → k < B) : StatesN B w' v l := by
 obtain ⟨h0, ts, h1, h2, h3⟩ := h
 exact ⟨h0, ts, h1, h2.updLow (by omega) h0 hu hS, fun i s t hs ht => ⟨(h3 i s t hs ht).1.updLow (h3 i s t hs ht).2 hu hS, (h3 i s t hs ht).2⟩⟩
theorem StatesN.form {B : Nat} {w : World} {v : SV} {l : List KState} (h : StatesN B w v l) (hl : 0 < l.length) :
 ∃ b off, v.A = some ⟨b, off, none⟩ ∧ b < w.heap.size ∧ ∀ (i : Nat) (s : KState), l[i]? = some s → ∃ t : TV, (StateAt w t s ∧ NewT B t) ∧ ∀ W, Below w.heap.size w W → ∀ j, j < 4 → W.cell? ⟨b, off + i * 4 + j, none⟩ = (t.cells s)[j]? := by
 obtain ⟨_, ts, h1, h2, h3⟩ := h
 obtain ⟨b, off, hA, hb, hc⟩ := h2.1.form hl (by omega)
 refine ⟨b, off, hA, hb, fun i s hs => ?_⟩
 have hi : i < l.length := (List.getElem?_eq_some_iff.1 hs).1
 have ht : ts[i]? = some (ts[i]'(by omega)) := List.getElem?_eq_getElem _
 refine ⟨ts[i]'(by omega), h3 i s _ hs ht, fun W hW j hj => ?_⟩
 rw [hW.cell (p := ⟨b, off + i * 4 + j, none⟩) hb, Nat.add_assoc, hc _ (by omega)]
 have hz : (l.zip ts)[i]? = some (s, ts[i]'(by omega)) := by rw [List.getElem?_zip_eq_some]; exact ⟨hs, ht⟩
 exact get_flat (fun p : KState × TV => TV.cells p.2 p.1) 4 (fun _ => rfl) (l.zip ts) i j _ hz hj
def KeysPost (F : List KState) (w : World) (e : Ending) (w' : World) : Prop :=
 ∃ (T : List (List UInt8)) (A : Option Addr) (c : Nat), e = .returned (.slice A T.length c) ∧ At w' 1 A T.length c (T.map encStr) ∧ Below w.heap.size w w' ∧ T.Perm (F.map KState.text) ∧ T.Pairwise (· ≤ ·)
theorem keys_any (b : Nat) (w : World) : Calls Tryz.prog 82 #[.map (some b)] w (fun e w' => e = .returned (.func (.func 106) #[] #[.pointer (some ⟨w.heap.size, 0, none⟩)]) ∧ w' = w.alloc (.cells #[.map (some b)] 111)) :=
 callsIn_wide.1 (Tryz.maps_Keys_it _ _)
theorem sorted_any {B : Nat} {w : World} {b : Nat} {F : List KState} (h : SetAt B w b F) (hF : F.length ≤ 1000000) :
 Calls Tryz.prog 81 #[.func (.func 106) #[] #[.pointer (some ⟨w.heap.size, 0, none⟩)]] (w.alloc (.cells #[.map (some b)] 111)) (KeysPost F (w.alloc (.cells #[.map (some b)] 111))) := by
 obtain ⟨D, hown, hsz, hperm⟩ := h.keys
 refine (callsIn_wide.1 (Tryz.slices_Sorted_keys_it b _ D R1 w hown (by rw [hsz]; unfold maxLen; omega) (by rw [hsz]; omega))).mono ?_
 rintro e w' ⟨v, ss, rfl, hS, hrow, _, hb⟩
 have hp := List.mergeSort_perm ss (fun x y => decide (x ≤ y))
 rw [← hp.length_eq] at hrow
 obtain ⟨A, c, rfl, hAt⟩ := ownsRow_at hrow (by
  intro u hu
  obtain ⟨t, _, rfl⟩ := List.mem_map.1 hu
  rfl)
 refine ⟨_, A, c, rfl, hAt, hb, hp.trans (hS.trans hperm), ?_⟩
 have h1 := List.pairwise_mergeSort (le := fun x y : List UInt8 => decide (x ≤ y)) (fun a b c h h' => by simpa using List.le_trans (by simpa using h) (by simpa using h')) (fun a b => by simpa using List.le_total a b) ss
 exact h1.imp (fun h => by simpa using h)
theorem nodup_states {F : List KState} (h : (F.map KState.text).Nodup) : F.Nodup := by
 unfold List.Nodup at h ⊢
 rw [List.pairwise_map] at h
 exact h.imp (fun hne e => hne (by rw [e]))
theorem SetAt.nodup {B : Nat} {w : World} {b : Nat} {F : List KState} (h : SetAt B w b F) : (F.map KState.text).Nodup := by
 obtain ⟨D, _, _, h3, _⟩ := h
 exact h3
theorem strict {T : List (List UInt8)} (h : T.Pairwise (· ≤ ·)) (hn : T.Nodup) : T.Pairwise (· < ·) := by
 unfold List.Nodup at hn
 refine List.Pairwise.imp₂ ?_ h hn
 intro a b h1 h2
 rcases Decidable.em (a < b) with h3 | h3
 · exact h3
 · exact absurd (List.le_antisymm h1 (List.not_lt.1 h3)) h2
def StateRet (s : KState) (w : World) (e : Ending) (w' : World) : Prop :=
 ∃ (A1 : Option Addr) (c1 : Nat) (A2 : Option Addr) (c2 : Nat) (A3 : Option Addr) (c3 : Nat), e = .returned (.tuple #[.agg #[.int .i64 s.day, .slice A1 s.holders.length c1, .slice A2 s.used.length c2, .slice A3 s.marks.length c3], .int .i64 0]) ∧ StateAt w' ⟨⟨A1, c1⟩, ⟨A2, c2⟩, ⟨A3, c3⟩⟩ s ∧ NewT w.heap.size ⟨⟨A1, c1⟩, ⟨A2, c2⟩, ⟨A3, c3⟩⟩ ∧ Below w.heap.size w w'
theorem StatePost.ret {s : KState} {w : World} {e : Ending} {w' : World} (h : StatePost 0 s w e w') : StateRet s w e w' := by
 obtain ⟨hb, ⟨_, t, rfl, hst, hnt⟩ | ⟨h0, _⟩⟩ := h
 · exact ⟨t.h.A, t.h.c, t.u.A, t.u.c, t.m.A, t.m.c, rfl, hst, hnt, hb⟩
 · exact absurd rfl h0
theorem SetAt.lookAt {B : Nat} {w w' : World} {b : Nat} {F : List KState} (h : SetAt B w b F) (hb : Below w.heap.size w w') {s : KState} (hs : s ∈ F) (hl : s.text.length ≤ maxLen) :
 ∃ t : TV, (Instr.lookup 111 (.map (some b)) (.string ⟨s.text.toArray⟩) false).run Tryz.prog w' = .ok (t.val s) w' ∧ StateAt w t s ∧ NewT B t := by
 obtain ⟨D, ⟨es, clock, h1, r⟩, h2, h3, h4, h5⟩ := h
 have hown : w'.ownsMap Tryz.prog 9 R1 b (Maps.size D) D := ⟨es, clock, (hb.block b (lt_of_heap h1)).trans h1, r⟩
 obtain ⟨t, ht, hst⟩ := h4 s hs
 obtain ⟨v, ps, hrun, hv⟩ := hown.lookup (t := 111) (e := 43) lawS Tryz.underlying111 (zeroS w') (zd := .held zeroState) (zp := []) rfl (keyS hl)
 have h6 := R1_inj hv
 rw [ht] at h6
 injection h6 with h6
 subst h6
 exact ⟨t, hrun, hst⟩
theorem cells_one (l : List (KState × TV)) : ∀ u ∈ l.flatMap (fun p => TV.cells p.2 p.1), u.oneCell' = true := by
 intro u hu
 obtain ⟨p, _, hp⟩ := List.mem_flatMap.1 hu
 simp only [TV.cells, KState.cells, List.mem_cons, List.not_mem_nil, or_false] at hp
 rcases hp with rfl | rfl | rfl | rfl <;> rfl
theorem nodup_get {α : Type} {T : List α} (h : T.Nodup) {i j : Nat} {t : α} (hi : T[i]? = some t) (hj : T[j]? = some t) : i = j := by
 rw [List.Nodup, List.pairwise_iff_getElem] at h
 obtain ⟨hi1, hi2⟩ := List.getElem?_eq_some_iff.1 hi
 obtain ⟨hj1, hj2⟩ := List.getElem?_eq_some_iff.1 hj
 rcases Nat.lt_trichotomy i j with hlt | e | hlt
 · exact absurd (hi2.trans hj2.symm) (h i j hi1 hj1 hlt)
 · exact e
 · exact absurd (hj2.trans hi2.symm) (h j i hj1 hi1 hlt)
theorem filter_len {G : List KState} {s : KState} (hn : (G.map KState.text).Nodup) (hs : s ∈ G) : (G.filter (fun x => x.text != s.text)).length + 1 = G.length := by
 induction G with
 | nil => cases hs
 | cons a G ih =>
  rw [List.map_cons, List.nodup_cons] at hn
  by_cases e : a.text = s.text
  · have hrest : G.filter (fun x => x.text != s.text) = G := by
     apply List.filter_eq_self.2
     intro x hx
     have : x.text ≠ s.text := fun e' => hn.1 (by rw [e, ← e']; exact List.mem_map.2 ⟨x, hx, rfl⟩)
     simpa using this
    rw [List.filter_cons_of_neg (by simp [e]), hrest, List.length_cons]
  · have hm' : s ∈ G := by
     rcases List.mem_cons.1 hs with rfl | hm
     · exact absurd rfl e
     · exact hm
    rw [List.filter_cons_of_pos (by simpa using e), List.length_cons, List.length_cons, ih hn.2 hm']
end Go.Proofs.YtaielhafpmjkaaaGreatDoor
