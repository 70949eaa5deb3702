/-
  IterP; Funcs
-/
import Derived.Test.YtaielhafpmjkaaaGreatDoorQ37
namespace Go.Proofs.YtaielhafpmjkaaaGreatDoor
open Go.RowKit Go.Shelf
attribute [local go_sem] Oper.semAt_some
structure Mo where
 step : Int
 s : KState
 t : TV
 er : Int
def Mo.encs (x : Mo) : Array Value := #[.agg #[.int .i64 x.step, .int .i64 x.s.day, .slice x.t.h.A x.s.holders.length x.t.h.c, .slice x.t.u.A x.s.used.length x.t.u.c, .slice x.t.m.A x.s.marks.length x.t.m.c], .int .i64 x.er]
def rowOf (b8 : Nat) (V : World) : Option Nat := (V.cell? ⟨b8, 0, none⟩).bind Value.ownBlock
def NoCells (V : World) (k : Nat) : Prop := ∃ o : Obj, V.heap[k]? = some o ∧ o.isCells = false
structure KpB (fx : Nat → Prop) (b8 : Nat) (V V' : World) : Prop where
 upd : Upd (fun k => fx k ∨ rowOf b8 V = some k ∨ NoCells V k) V V'
 row : rowOf b8 V' = rowOf b8 V ∨ ∀ k, rowOf b8 V' = some k → V.heap.size ≤ k
theorem rowOf_of {b8 : Nat} {V V' : World} (h : V'.heap[b8]? = V.heap[b8]?) : rowOf b8 V' = rowOf b8 V := by unfold rowOf; simp [World.cell?, h]
structure IterIn (v : CV) (C : KCon) (lA : Option Addr) (lc : Nat) (l : List Int) (bc bl b8 : Nat) (fx : Nat → Prop) (V : World) : Prop where
 con : ConAt V v C
 cbox : V.heap[bc]? = some (.cells (v.cells C).toArray 27 (0, 0))
 lbox : V.heap[bl]? = some (.cells #[.slice lA l.length lc] 22 (0, 0))
 lat : At V 1 lA l.length lc (ints l)
 row : ∀ k, rowOf b8 V = some k → k < V.heap.size
 fixed : ∀ k, fx k → k < V.heap.size
 has8 : fx b8
def Safe (fx : Nat → Prop) (b8 g : Nat) (V : World) (t : TV) (s : KState) : Prop := ∀ V', Upd (fun k => fx k ∨ rowOf b8 V = some k ∨ NoCells V k ∨ k = g) V V' → StateAt V' t s
theorem Safe.at {fx : Nat → Prop} {b8 g : Nat} {V : World} {t : TV} {s : KState} (h : Safe fx b8 g V t s) : StateAt V t s := h V (Upd.refl _ _)
theorem Src.updZ {Z : Nat → Prop} {B : Nat} {z V V' : World} {size m c : Nat} {A : Option Addr} {news : List Value} (h : Src z size A m news) (hs : 0 < size) (hn : NewSV B ⟨A, c⟩) (hb : Below z.heap.size z V) (hu : Upd Z V V') (hZ : ∀ k, k < z.heap.size → Z k → k < B ∨ NoCells z k) : Src V' size A m news := by
 refine ⟨h.1, h.2.1, fun hm => ?_⟩
 obtain ⟨p, off, rfl, hlt, hc⟩ := h.form hm hs
 refine ⟨_, rfl, fun j u hj => ?_⟩
 have hjl : j < m * size := by rw [← h.1]; exact (List.getElem?_eq_some_iff.1 hj).1
 have hp := hn p off rfl
 have hcj : z.cell? ⟨p, off + j, none⟩ = some u := by rw [hc j hjl, hj]
 have hns : ¬ Z p := fun hz => by
  rcases hZ p hlt hz with h1 | ⟨o, ho, hoc⟩
  · omega
  · obtain ⟨o', ho', hc'⟩ := cells_of_cell hcj
    rw [ho] at ho'
    cases ho'
    rw [hoc] at hc'
    cases hc'
 rw [Addr.add_lit, show V'.cell? ⟨p, off + j, none⟩ = z.cell? ⟨p, off + j, none⟩ by simp [World.cell?, hu.block p (Nat.lt_of_lt_of_le hlt hb.size) hns, hb.block p hlt], hcj]
theorem StateAt.updZ {Z : Nat → Prop} {B : Nat} {z V V' : World} {t : TV} {s : KState} (h : StateAt z t s) (hn : NewT B t) (hb : Below z.heap.size z V) (hu : Upd Z V V') (hZ : ∀ k, k < z.heap.size → Z k → k < B ∨ NoCells z k) : StateAt V' t s :=
 ⟨⟨h.holders.1.updZ (by omega) hn.1 hb hu hZ, h.holders.2⟩, ⟨h.used.1.updZ (by omega) hn.2.1 hb hu hZ, h.used.2⟩, ⟨h.marks.1.updZ (by omega) hn.2.2 hb hu hZ, h.marks.2⟩⟩
theorem upd_round {fx : Nat → Prop} {b8 g : Nat} {V V3 V4 V' : World} (hk : KpB fx b8 V V3) (h4 : Upd (fun k => k = g) V3 V4) (hg : g ≠ b8) (hb8 : b8 < V.heap.size) (hu : Upd (fun k => fx k ∨ rowOf b8 V4 = some k ∨ NoCells V4 k ∨ k = g) V4 V') : Upd (fun k => fx k ∨ rowOf b8 V = some k ∨ NoCells V k ∨ k = g) V V' := by
 refine ⟨hu.os.trans (h4.os.trans hk.upd.os), hu.tape.trans (h4.tape.trans hk.upd.tape), hu.output.trans (h4.output.trans hk.upd.output), Nat.le_trans hk.upd.size (Nat.le_trans h4.size hu.size), fun k hkl hn => ?_⟩
 have n1 : ¬ (fx k ∨ rowOf b8 V = some k ∨ NoCells V k) := fun h => hn (by rcases h with h | h | h; exact .inl h; exact .inr (.inl h); exact .inr (.inr (.inl h)))
 have n2 : k ≠ g := fun h => hn (.inr (.inr (.inr h)))
 have e3 := hk.upd.block k hkl n1
 have e4 := h4.block k (Nat.lt_of_lt_of_le hkl hk.upd.size) n2
 have er : rowOf b8 V4 = rowOf b8 V3 := rowOf_of (h4.block b8 (Nat.lt_of_lt_of_le hb8 hk.upd.size) (fun e => hg e.symm))
 rw [hu.block k (Nat.lt_of_lt_of_le hkl (Nat.le_trans hk.upd.size h4.size)) (fun h => ?_), e4, e3]
 rcases h with h | h | ⟨o, ho, hc⟩ | h
 · exact n1 (.inl h)
 · rw [er] at h
   rcases hk.row with hr | hr
   · rw [hr] at h; exact n1 (.inr (.inl h))
   · have := hr k h; omega
 · rw [e4, e3] at ho; exact n1 (.inr (.inr ⟨o, ho, hc⟩))
 · exact n2 h
def StepsTo (C : KCon) (l : List Int) (pre : List Mo) (x : Mo) (V : World) : Prop :=
 l[pre.length]? = some x.step ∧ x.s = C.att (l.take pre.length) ∧ x.er = C.stepErr x.s x.step ∧ StateAt V x.t x.s ∧ ∀ (i : Nat) (y : Int), i < pre.length → l[i]? = some y → C.stepErr (C.att (l.take i)) y = 0
theorem StepsTo.putObj {C : KCon} {l : List Int} {pre : List Mo} {x : Mo} {V : World} (h : StepsTo C l pre x V) {b : Nat} {o o' : Obj} (hb : V.heap[b]? = some o) (hc : o.isCells = false) : StepsTo C l pre x (V.putObj b o') :=
 ⟨h.1, h.2.1, h.2.2.1, h.2.2.2.1.updZ (B := 0) ⟨fun _ _ _ => Nat.zero_le _, fun _ _ _ => Nat.zero_le _, fun _ _ _ => Nat.zero_le _⟩ (Below.refl _ _) (Z := fun k => k = b) ⟨rfl, rfl, rfl, by simp [World.putObj], fun k _ hn => World.putObj_heap_other hn⟩ (fun k _ e => .inr (by subst e; exact ⟨o, hb, hc⟩)), h.2.2.2.2⟩
set_option maxRecDepth 100000 in
set_option maxHeartbeats 4000000 in
theorem run_iter {v : CV} {C : KCon} {lA : Option Addr} {lc : Nat} {l : List Int} {bc bl b8 : Nat} {fx : Nat → Prop} (hv : C.valid = true) (n : Nat) (hn : 1 ≤ n) (I : List Mo → World → Prop) (hI : ∀ pre V, I pre V → IterIn v C lA lc l bc bl b8 fx V) :
 SeqL Fence.wide n Tryz.prog 116 #[.pointer (some ⟨bc, 0, none⟩), .pointer (some ⟨bl, 0, none⟩)] Mo.encs 43 (KpB fx b8) I (fun pre x V => StepsTo C l pre x V ∧ x.er = 0) (fun pre x V => StepsTo C l pre x V ∧ x.er ≠ 0)
  (fun xs => xs.length = l.length ∧ ∀ (i : Nat) (y : Int), l[i]? = some y → C.stepErr (C.att (l.take i)) y = 0) (fun _ => ∃ (i : Nat) (y : Int), l[i]? = some y ∧ C.stepErr (C.att (l.take i)) y ≠ 0) := by
 intro ll J JL W hJI hJA hY hL h0
 obtain ⟨⟨vhA, vhc⟩, ⟨vuA, vuc⟩, ⟨vaA, vac⟩, ⟨vkA, vkc⟩, ⟨voA, voc⟩⟩ := v
 have HIN : Hid (∀ pre V, J pre V → IterIn (⟨⟨vhA, vhc⟩, ⟨vuA, vuc⟩, ⟨vaA, vac⟩, ⟨vkA, vkc⟩, ⟨voA, voc⟩⟩ : CV) C lA lc l bc bl b8 fx V) := fun pre V h => hI _ _ (hJI _ _ h)
 have HJA := Lib.hid hJA
 have HY := Lib.hid hY
 have HL := Lib.hid hL
 have HJ0 := Lib.hid h0
 clear hI hJI hJA hY hL h0
 have hin := HIN.out _ _ HJ0.out
 have hlx : l.length ≤ 9223372036854775807 := by have h1 := hin.lat.2.2.1; have h2 := hin.lat.2.2.2; unfold maxLen at h2; omega
 have c0 : W.cell? ⟨bc, 0, none⟩ = some (.int .i64 C.parties) := (cell_of_row _ _ 0 _ _ _ hin.cbox).trans rfl
 have c1 : W.cell? ⟨bc, 1, none⟩ = some (.slice vhA C.holders.length vhc) := (cell_of_row _ _ 1 _ _ _ hin.cbox).trans rfl
 have c2 : W.cell? ⟨bc, 2, none⟩ = some (.slice vuA C.units.length vuc) := (cell_of_row _ _ 2 _ _ _ hin.cbox).trans rfl
 have c3 : W.cell? ⟨bc, 3, none⟩ = some (.slice vaA C.acts.length vac) := (cell_of_row _ _ 3 _ _ _ hin.cbox).trans rfl
 have c4 : W.cell? ⟨bc, 4, none⟩ = some (.slice vkA C.clauses.length vkc) := (cell_of_row _ _ 4 _ _ _ hin.cbox).trans rfl
 have c5 : W.cell? ⟨bc, 5, none⟩ = some (.int .i64 C.days) := (cell_of_row _ _ 5 _ _ _ hin.cbox).trans rfl
 have c6 : W.cell? ⟨bc, 6, none⟩ = some (.slice voA C.off.length voc) := (cell_of_row _ _ 6 _ _ _ hin.cbox).trans rfl
 have HBG := Lib.hid ((begin_any (⟨⟨vhA, vhc⟩, ⟨vuA, vuc⟩, ⟨vaA, vac⟩, ⟨vkA, vkc⟩, ⟨voA, voc⟩⟩ : CV) C W hin.con).mono (fun _ _ h => by rw [hv] at h; exact h.ret))
 have hlb : W.cell? ⟨bl, 0, none⟩ = some (.slice lA l.length lc) := (cell_of_row _ _ 0 _ _ _ hin.lbox).trans rfl
 have hbl := lt_of_heap hin.lbox
 have HF8 := Lib.hid hin.has8
 have HFX := Lib.hid hin.fixed
 have HRW := Lib.hid hin.row
 clear hin
 simp only [CV.val, CV.cells] at HBG
 generalize hfs : C.first = s1 at HBG
 have HFS := Lib.hid hfs; clear hfs
 refine callsIn_of_wp Tryz.func116 rfl trivial ?_ rfl
 simp only [Tryz.ntmps116, List.size_toArray, List.length_cons, List.length_nil, Nat.reduceAdd, Nat.reduceSub, Array.replicate_succ, Array.replicate_zero, List.push_toArray, List.append_toArray, List.nil_append, List.cons_append]
 gi_wp2_with (refine ⟨trivial, ?_⟩; gi_at_call 51; refine (callsIn_wide.2 HBG.out).mono ?_; rintro e z1 ⟨ahA, ahc, auA, auc, amA, amc, rfl, hst, hnt, hz⟩; refine Hid.out ?_)
 refine Lib.hid ?_
 have HZ := Lib.hid hz
 have hlb1 : z1.cell? ⟨bl, 0, none⟩ = some (.slice lA l.length lc) := by rw [hz.cell (p := ⟨bl, 0, none⟩) hbl]; exact hlb
 have hbl1 : bl < z1.heap.size := Nat.lt_of_lt_of_le hbl hz.size
 have HST := Lib.hid hst
 have HNT := Lib.hid hnt
 clear hst hnt hz c0 c1 c2 c3 c4 c5 c6 hlb hbl
 gi_wp2
 have HBA : Hid (Below W.heap.size W (z1.alloc (.cells #[.int .i64 s1.day, .slice ahA s1.holders.length ahc, .slice auA s1.used.length auc, .slice amA s1.marks.length amc] 43))) := Below.alloc' HZ.out _
 have HSAFE : Hid (Safe fx b8 z1.heap.size (z1.alloc (.cells #[.int .i64 s1.day, .slice ahA s1.holders.length ahc, .slice auA s1.used.length auc, .slice amA s1.marks.length amc] 43)) (⟨⟨ahA, ahc⟩, ⟨auA, auc⟩, ⟨amA, amc⟩⟩ : TV) s1) := fun V' hu => by
  refine HST.out.updZ HNT.out (Below.alloc' (Below.refl _ z1) _) hu (fun k hk hz => ?_)
  have hzs := HZ.out.size
  rcases hz with h | h | ⟨o, ho, hc⟩ | h
  · exact .inl (HFX.out k h)
  · rw [rowOf_of (HBA.out.block b8 (HFX.out b8 HF8.out))] at h
    exact .inl (HRW.out k h)
  · exact .inr ⟨o, by rw [← Below.heap_alloc z1 _ k hk]; exact ho, hc⟩
  · omega
 have HR0 : Hid (rowOf b8 (z1.alloc (.cells #[.int .i64 s1.day, .slice ahA s1.holders.length ahc, .slice auA s1.used.length auc, .slice amA s1.marks.length amc] 43)) ≠ some z1.heap.size) := fun e => by
  rw [rowOf_of (HBA.out.block b8 (HFX.out b8 HF8.out))] at e
  have := HRW.out _ e
  have := HZ.out.size
  omega
 have HG1 : Hid (W.heap.size ≤ z1.heap.size) := HZ.out.size
 have HJ1 : Hid (J [] (z1.alloc (.cells #[.int .i64 s1.day, .slice ahA s1.holders.length ahc, .slice auA s1.used.length auc, .slice amA s1.marks.length amc] 43))) := HJA.out _ _ _ HJ0.out ⟨HBA.out.os, HBA.out.tape, HBA.out.output, HBA.out.size, fun k hk _ => HBA.out.block k hk⟩
 have HX1 : Hid ((z1.alloc (.cells #[.int .i64 s1.day, .slice ahA s1.holders.length ahc, .slice auA s1.used.length auc, .slice amA s1.marks.length amc] 43)).heap[z1.heap.size]? = some (.cells #[.int .i64 s1.day, .slice ahA s1.holders.length ahc, .slice auA s1.used.length auc, .slice amA s1.marks.length amc] 43 (0, 0))) := heap_alloc_new z1 _
 have HS1 : Hid (s1 = C.att (l.take 0)) := HFS.out.symm
 generalize z1.alloc (.cells #[.int .i64 s1.day, .slice ahA s1.holders.length ahc, .slice auA s1.used.length auc, .slice amA s1.marks.length amc] 43) = Wg at HBA HSAFE HR0 HJ1 HX1 ⊢
 generalize z1.heap.size = g1 at HSAFE HR0 HX1 HG1 ⊢
 clear hlb1 hbl1 HZ HST HNT HBG
 gi_loopw [23] (fun i wr => ∃ (k : Nat) (pre : List Mo) (s : KState) (thA : Option Addr) (thc : Nat) (tuA : Option Addr) (tuc : Nat) (tmA : Option Addr) (tmc : Nat), k ≤ l.length ∧ i = .int .i64 k ∧ Hid (pre.length = k) ∧ Hid (J pre wr) ∧ Hid (s = C.att (l.take k)) ∧ Hid (∀ (i : Nat) (y : Int), i < k → l[i]? = some y → C.stepErr (C.att (l.take i)) y = 0) ∧ Hid (wr.heap[g1]? = some (.cells #[.int .i64 s.day, .slice thA s.holders.length thc, .slice tuA s.used.length tuc, .slice tmA s.marks.length tmc] 43 (0, 0))) ∧ Hid (Safe fx b8 g1 wr (⟨⟨thA, thc⟩, ⟨tuA, tuc⟩, ⟨tmA, tmc⟩⟩ : TV) s) ∧ Hid (rowOf b8 wr ≠ some g1) ∧ Hid (W.heap.size ≤ wr.heap.size)) (fun i _ => l.length - (intOf i).toNat)
 case atStart => exact ⟨0, [], s1, ahA, ahc, auA, auc, amA, amc, Nat.zero_le _, rfl, rfl, HJ1, HS1, (fun i y h => by omega), HX1, HSAFE, HR0, HBA.out.size⟩
 case round =>
  obtain ⟨k, pre, s, thA, thc, tuA, tuc, tmA, tmc, hk, rfl, HPL, HJ, HS, HLE, HX, HSF, HRG, HWS⟩ := hrel
  by_cases hlt : k < l.length
  · have hin := HIN.out _ _ HJ.out
    obtain ⟨x, hx⟩ : ∃ x, l[k]? = some x := ⟨_, List.getElem?_eq_getElem hlt⟩
    obtain ⟨lb, lo, hA, hlb, hlc⟩ := hin.lat.1.form (by omega) (by omega)
    subst hA
    have cl : wr.cell? ⟨lb, lo + k, none⟩ = some (.int .i64 x) := by rw [hlc k (by omega)]; simp only [ints, List.getElem?_map, hx, Option.map_some]
    have HXK := Lib.hid hx
    clear hx hlc hlb
    have c0 : wr.cell? ⟨bc, 0, none⟩ = some (.int .i64 C.parties) := (cell_of_row _ _ 0 _ _ _ hin.cbox).trans rfl
    have c1 : wr.cell? ⟨bc, 1, none⟩ = some (.slice vhA C.holders.length vhc) := (cell_of_row _ _ 1 _ _ _ hin.cbox).trans rfl
    have c2 : wr.cell? ⟨bc, 2, none⟩ = some (.slice vuA C.units.length vuc) := (cell_of_row _ _ 2 _ _ _ hin.cbox).trans rfl
    have c3 : wr.cell? ⟨bc, 3, none⟩ = some (.slice vaA C.acts.length vac) := (cell_of_row _ _ 3 _ _ _ hin.cbox).trans rfl
    have c4 : wr.cell? ⟨bc, 4, none⟩ = some (.slice vkA C.clauses.length vkc) := (cell_of_row _ _ 4 _ _ _ hin.cbox).trans rfl
    have c5 : wr.cell? ⟨bc, 5, none⟩ = some (.int .i64 C.days) := (cell_of_row _ _ 5 _ _ _ hin.cbox).trans rfl
    have c6 : wr.cell? ⟨bc, 6, none⟩ = some (.slice voA C.off.length voc) := (cell_of_row _ _ 6 _ _ _ hin.cbox).trans rfl
    have d0 : wr.cell? ⟨g1, 0, none⟩ = some (.int .i64 s.day) := (cell_of_row _ _ 0 _ _ _ HX.out).trans rfl
    have d1 : wr.cell? ⟨g1, 1, none⟩ = some (.slice thA s.holders.length thc) := (cell_of_row _ _ 1 _ _ _ HX.out).trans rfl
    have d2 : wr.cell? ⟨g1, 2, none⟩ = some (.slice tuA s.used.length tuc) := (cell_of_row _ _ 2 _ _ _ HX.out).trans rfl
    have d3 : wr.cell? ⟨g1, 3, none⟩ = some (.slice tmA s.marks.length tmc) := (cell_of_row _ _ 3 _ _ _ HX.out).trans rfl
    have HSTP := Lib.hid (step_any (⟨⟨vhA, vhc⟩, ⟨vuA, vuc⟩, ⟨vaA, vac⟩, ⟨vkA, vkc⟩, ⟨voA, voc⟩⟩ : CV) C (⟨⟨thA, thc⟩, ⟨tuA, tuc⟩, ⟨tmA, tmc⟩⟩ : TV) s x wr hin.con HSF.out.at)
    have HRW2 := Lib.hid hin.row
    clear hin
    simp only [CV.val, CV.cells, TV.val, TV.cells, KState.cells] at HSTP
    have k0 : (0 : Int) ≤ (k : Int) := by omega
    have k1 : (k : Int) < (l.length : Int) := by omega
    have HGL := Lib.hid (lt_of_heap HX.out)
    by_cases he : C.stepErr s x = 0
    · have HE := Lib.hid he; clear he
      have HSTE := Lib.hid (HSTP.out.mono (fun _ _ h => by rw [HE.out] at h; exact h.ret))
      clear HSTP
      generalize hs' : C.next s x = s' at HSTE
      have HSN := Lib.hid hs'; clear hs'
      gi_wp2_with (refine ⟨trivial, ?_⟩; gi_at_call 21; refine (callsIn_wide.2 HSTE.out).mono ?_; rintro e z2 ⟨xhA, xhc, xuA, xuc, xmA, xmc, rfl, hst2, hnt2, hz2⟩; refine Hid.out ?_)
      refine Lib.hid ?_
      have HZ2 := Lib.hid hz2
      have HST2 := Lib.hid hst2
      have HNT2 := Lib.hid hnt2
      have hg1 : g1 < z2.heap.size := Nat.lt_of_lt_of_le HGL.out hz2.size
      have HX2 : Hid (z2.heap[g1]? = some (.cells #[.int .i64 s.day, .slice thA s.holders.length thc, .slice tuA s.used.length tuc, .slice tmA s.marks.length tmc] 43 (0, 0))) := by show _ = _; rw [hz2.block g1 HGL.out]; exact HX.out
      have e0 : z2.cell? ⟨g1, 0, none⟩ = some (.int .i64 s.day) := (cell_of_row _ _ 0 _ _ _ HX2.out).trans rfl
      have e1 : z2.cell? ⟨g1, 1, none⟩ = some (.slice thA s.holders.length thc) := (cell_of_row _ _ 1 _ _ _ HX2.out).trans rfl
      have e2 : z2.cell? ⟨g1, 2, none⟩ = some (.slice tuA s.used.length tuc) := (cell_of_row _ _ 2 _ _ _ HX2.out).trans rfl
      have e3 : z2.cell? ⟨g1, 3, none⟩ = some (.slice tmA s.marks.length tmc) := (cell_of_row _ _ 3 _ _ _ HX2.out).trans rfl
      clear hst2 hnt2 hz2 cl c0 c1 c2 c3 c4 c5 c6 d0 d1 d2 d3
      have HBN : Hid (Below wr.heap.size wr (z2.alloc (.cells #[.int .i64 s'.day, .slice xhA s'.holders.length xhc, .slice xuA s'.used.length xuc, .slice xmA s'.marks.length xmc] 43))) := Below.alloc' HZ2.out _
      obtain ⟨fn, tmps, assign, body, hy, hR⟩ := HY.out pre ⟨x, s, (⟨⟨thA, thc⟩, ⟨tuA, tuc⟩, ⟨tmA, tmc⟩⟩ : TV), 0⟩ (z2.alloc (.cells #[.int .i64 s'.day, .slice xhA s'.holders.length xhc, .slice xuA s'.used.length xuc, .slice xmA s'.marks.length xmc] 43)) (HJA.out _ _ _ HJ.out ⟨HBN.out.os, HBN.out.tape, HBN.out.output, HBN.out.size, fun k hk _ => HBN.out.block k hk⟩) ⟨⟨by rw [HPL.out]; exact HXK.out, by rw [HPL.out]; exact HS.out, HE.out.symm, HSF.out.at.below HBN.out, fun i y hi => HLE.out i y (by have := HPL.out; omega)⟩, rfl⟩
      simp only [Mo.encs] at hy
      gi_wp2
      refine hR.mono ?_
      rintro e V3 ⟨rfl, hJ3, hk3⟩
      have HJ3 := Lib.hid hJ3
      have HK3 := Lib.hid hk3
      clear hJ3 hk3 hR hy e0 e1 e2 e3
      have hkeep : ∀ (g : Nat) (cs : Array Value), W.heap.size ≤ g → rowOf b8 (z2.alloc (.cells #[.int .i64 s'.day, .slice xhA s'.holders.length xhc, .slice xuA s'.used.length xuc, .slice xmA s'.marks.length xmc] 43)) ≠ some g → (z2.alloc (.cells #[.int .i64 s'.day, .slice xhA s'.holders.length xhc, .slice xuA s'.used.length xuc, .slice xmA s'.marks.length xmc] 43)).heap[g]? = some (.cells cs 43 (0, 0)) → V3.heap[g]? = some (.cells cs 43 (0, 0)) := fun g cs hg hr hh => by
       rw [HK3.out.upd.block g (lt_of_heap hh) (fun h => ?_)]
       · exact hh
       · rcases h with h | h | ⟨o, ho, hc⟩
         · have := HFX.out g h; omega
         · exact hr h
         · rw [hh] at ho; cases ho; cases hc
      have her : rowOf b8 (z2.alloc (.cells #[.int .i64 s'.day, .slice xhA s'.holders.length xhc, .slice xuA s'.used.length xuc, .slice xmA s'.marks.length xmc] 43)) = rowOf b8 wr := rowOf_of (HBN.out.block b8 (Nat.lt_of_lt_of_le (HFX.out b8 HF8.out) HWS.out))
      have HX3 : Hid (V3.heap[g1]? = some (.cells #[.int .i64 s.day, .slice thA s.holders.length thc, .slice tuA s.used.length tuc, .slice tmA s.marks.length tmc] 43 (0, 0))) := hkeep g1 _ HG1.out (by rw [her]; exact HRG.out) (by rw [HBN.out.block g1 HGL.out]; exact HX.out)
      have HXN : Hid (V3.heap[z2.heap.size]? = some (.cells #[.int .i64 s'.day, .slice xhA s'.holders.length xhc, .slice xuA s'.used.length xuc, .slice xmA s'.marks.length xmc] 43 (0, 0))) := hkeep z2.heap.size _ (by have := HZ2.out.size; have := HWS.out; omega) (by rw [her]; intro e; have := HRW2.out _ e; have := HZ2.out.size; omega) (heap_alloc_new z2 _)
      have HER := Lib.hid her
      clear hkeep her
      have e0 : V3.cell? ⟨g1, 0, none⟩ = some (.int .i64 s.day) := (cell_of_row _ _ 0 _ _ _ HX3.out).trans rfl
      have e1 : V3.cell? ⟨g1, 1, none⟩ = some (.slice thA s.holders.length thc) := (cell_of_row _ _ 1 _ _ _ HX3.out).trans rfl
      have e2 : V3.cell? ⟨g1, 2, none⟩ = some (.slice tuA s.used.length tuc) := (cell_of_row _ _ 2 _ _ _ HX3.out).trans rfl
      have e3 : V3.cell? ⟨g1, 3, none⟩ = some (.slice tmA s.marks.length tmc) := (cell_of_row _ _ 3 _ _ _ HX3.out).trans rfl
      have n0 : V3.cell? ⟨z2.heap.size, 0, none⟩ = some (.int .i64 s'.day) := (cell_of_row _ _ 0 _ _ _ HXN.out).trans rfl
      have n1 : V3.cell? ⟨z2.heap.size, 1, none⟩ = some (.slice xhA s'.holders.length xhc) := (cell_of_row _ _ 1 _ _ _ HXN.out).trans rfl
      have n2 : V3.cell? ⟨z2.heap.size, 2, none⟩ = some (.slice xuA s'.used.length xuc) := (cell_of_row _ _ 2 _ _ _ HXN.out).trans rfl
      have n3 : V3.cell? ⟨z2.heap.size, 3, none⟩ = some (.slice xmA s'.marks.length xmc) := (cell_of_row _ _ 3 _ _ _ HXN.out).trans rfl
      have f0 : V3.frozen? ⟨g1, 0, none⟩ = false := frozen_of_row HX3.out 0
      have f1 : V3.frozen? ⟨g1, 1, none⟩ = false := frozen_of_row HX3.out 1
      have f2 : V3.frozen? ⟨g1, 2, none⟩ = false := frozen_of_row HX3.out 2
      have f3 : V3.frozen? ⟨g1, 3, none⟩ = false := frozen_of_row HX3.out 3
      have hne : ¬ (g1 = z2.heap.size) := by omega
      gi_wp2
      obtain ⟨V4, HV4⟩ : ∃ V4, Hid (V4 = (((V3.setCell ⟨g1, 0, none⟩ (.int .i64 s'.day)).setCell ⟨g1, 1, none⟩ (.slice xhA s'.holders.length xhc)).setCell ⟨g1, 2, none⟩ (.slice xuA s'.used.length xuc)).setCell ⟨g1, 3, none⟩ (.slice xmA s'.marks.length xmc)) := ⟨_, rfl⟩
      rw [← HV4.out]
      obtain ⟨_, _, _, _, hub⟩ := stored4 e0 e1 e2 e3 HV4.out
      have HUB := Lib.hid hub
      have HX4 : Hid (V4.heap[g1]? = some (.cells #[.int .i64 s'.day, .slice xhA s'.holders.length xhc, .slice xuA s'.used.length xuc, .slice xmA s'.marks.length xmc] 43 (0, 0))) := row4_set HX3.out HV4.out
      have hb8 : b8 < W.heap.size := HFX.out b8 HF8.out
      have hg8 : g1 ≠ b8 := fun e => by have := HG1.out; omega
      have HSF4 : Hid (Safe fx b8 g1 V4 (⟨⟨xhA, xhc⟩, ⟨xuA, xuc⟩, ⟨xmA, xmc⟩⟩ : TV) s') := fun V' hu => by
       have hu2 := upd_round HK3.out HUB.out hg8 (by have := HBN.out.size; have := HWS.out; omega) hu
       refine HST2.out.updZ HNT2.out (Below.alloc' (Below.refl _ z2) _) hu2 (fun k hk hz => ?_)
       rcases hz with h | h | ⟨o, ho, hc⟩ | h
       · exact .inl (by have := HFX.out k h; have := HWS.out; omega)
       · rw [HER.out] at h; exact .inl (HRW2.out k h)
       · exact .inr ⟨o, by rw [← Below.heap_alloc z2 _ k hk]; exact ho, hc⟩
       · exact .inl (by have := HGL.out; omega)
      have HJ4 : Hid (J (pre ++ [⟨x, s, (⟨⟨thA, thc⟩, ⟨tuA, tuc⟩, ⟨tmA, tmc⟩⟩ : TV), 0⟩]) V4) := HJA.out _ _ _ HJ3.out (Upd.mono HUB.out (fun k _ e => by subst e; exact ⟨HG1.out, _, _, HX3.out⟩))
      have HR4 : Hid (rowOf b8 V4 ≠ some g1) := fun e => by
       rw [rowOf_of (HUB.out.block b8 (by have := HK3.out.upd.size; have := HBN.out.size; have := HWS.out; omega) (fun e => hg8 e.symm))] at e
       rcases HK3.out.row with hr | hr
       · rw [hr, HER.out] at e; exact HRG.out e
       · have := hr _ e; have := HBN.out.size; have := HGL.out; omega
      have HS4 : Hid (s' = C.att (l.take (k + 1))) := by show _ = _; rw [att_succ HXK.out, ← HS.out]; exact HSN.out.symm
      have HL4 : Hid (∀ (i : Nat) (y : Int), i < k + 1 → l[i]? = some y → C.stepErr (C.att (l.take i)) y = 0) := fun i y hi hy => by
       by_cases e : i = k
       · subst e
         rw [HXK.out] at hy
         cases hy
         rw [← HS.out]
         exact HE.out
       · exact HLE.out i y (by omega) hy
      have HW4 : Hid (W.heap.size ≤ V4.heap.size) := by show _ ≤ _; have := HUB.out.size; have := HK3.out.upd.size; have := HBN.out.size; have := HWS.out; omega
      go_roundw
      case rel => exact ⟨k + 1, pre ++ [⟨x, s, (⟨⟨thA, thc⟩, ⟨tuA, tuc⟩, ⟨tmA, tmc⟩⟩ : TV), 0⟩], s', xhA, xhc, xuA, xuc, xmA, xmc, by omega, by go_num, by show _ = _; rw [List.length_append, HPL.out]; rfl, HJ4, HS4, HL4, HX4, HSF4, HR4, HW4⟩
      case measure => simp [intOf]; omega
    · have HNE := Lib.hid he
      generalize hee : C.stepErr s x = er at HSTP he
      have HEE := Lib.hid hee
      have HSTE : Hid (Calls Tryz.prog 21 #[.agg #[.int .i64 C.parties, .slice vhA C.holders.length vhc, .slice vuA C.units.length vuc, .slice vaA C.acts.length vac, .slice vkA C.clauses.length vkc, .int .i64 C.days, .slice voA C.off.length voc], .agg #[.int .i64 s.day, .slice thA s.holders.length thc, .slice tuA s.used.length tuc, .slice tmA s.marks.length tmc], .int .i64 x] wr (fun e w' => e = .returned (.tuple #[.agg #[.int .i64 0, .slice none 0 0, .slice none 0 0, .slice none 0 0], .int .i64 er]) ∧ Below wr.heap.size wr w')) := HSTP.out.mono (by
       rintro e w' ⟨hb, ⟨h0, _⟩ | ⟨_, he⟩⟩
       · exact absurd h0 he
       · exact ⟨he, hb⟩)
      clear HSTP hee
      gi_wp2_with (refine ⟨trivial, ?_⟩; gi_at_call 21; refine (callsIn_wide.2 HSTE.out).mono ?_; rintro e z2 ⟨rfl, hz2⟩; refine Hid.out ?_)
      refine Lib.hid ?_
      have hg1 : g1 < z2.heap.size := Nat.lt_of_lt_of_le HGL.out hz2.size
      have HX2 : Hid (z2.heap[g1]? = some (.cells #[.int .i64 s.day, .slice thA s.holders.length thc, .slice tuA s.used.length tuc, .slice tmA s.marks.length tmc] 43 (0, 0))) := by show _ = _; rw [hz2.block g1 HGL.out]; exact HX.out
      have e0 : z2.cell? ⟨g1, 0, none⟩ = some (.int .i64 s.day) := (cell_of_row _ _ 0 _ _ _ HX2.out).trans rfl
      have e1 : z2.cell? ⟨g1, 1, none⟩ = some (.slice thA s.holders.length thc) := (cell_of_row _ _ 1 _ _ _ HX2.out).trans rfl
      have e2 : z2.cell? ⟨g1, 2, none⟩ = some (.slice tuA s.used.length tuc) := (cell_of_row _ _ 2 _ _ _ HX2.out).trans rfl
      have e3 : z2.cell? ⟨g1, 3, none⟩ = some (.slice tmA s.marks.length tmc) := (cell_of_row _ _ 3 _ _ _ HX2.out).trans rfl
      have HBN : Hid (Below wr.heap.size wr (z2.alloc (.cells #[.int .i64 0, .slice none 0 0, .slice none 0 0, .slice none 0 0] 43))) := Below.alloc' hz2 _
      clear hz2 cl c0 c1 c2 c3 c4 c5 c6 d0 d1 d2 d3
      obtain ⟨fn, tmps, assign, body, hy, hR⟩ := HL.out pre ⟨x, s, (⟨⟨thA, thc⟩, ⟨tuA, tuc⟩, ⟨tmA, tmc⟩⟩ : TV), er⟩ (z2.alloc (.cells #[.int .i64 0, .slice none 0 0, .slice none 0 0, .slice none 0 0] 43)) (HJA.out _ _ _ HJ.out ⟨HBN.out.os, HBN.out.tape, HBN.out.output, HBN.out.size, fun k hk _ => HBN.out.block k hk⟩) ⟨⟨by rw [HPL.out]; exact HXK.out, by rw [HPL.out]; exact HS.out, HEE.out.symm, HSF.out.at.below HBN.out, fun i y hi => HLE.out i y (by have := HPL.out; omega)⟩, he⟩
      simp only [Mo.encs] at hy
      gi_wp2
      refine hR.mono ?_
      rintro e V3 ⟨rfl, hJ3⟩
      have HJ3 := Lib.hid hJ3
      clear hJ3 hR hy e0 e1 e2 e3
      gi_wp2
      try rw [Exit.noGoto_ret]
      refine bodyPost_ret (results_none rfl _ _ _) rfl ?_
      exact ⟨⟨_, rfl⟩, .inr ⟨_, ⟨k, x, HXK.out, by rw [← HS.out]; exact HNE.out⟩, HJ3.out⟩⟩
  · obtain rfl : k = l.length := by omega
    gi_wp2
    go_end0
    exact ⟨⟨_, rfl⟩, .inl ⟨_, ⟨HPL.out, fun i y hy => HLE.out i y (List.getElem?_eq_some_iff.1 hy).1 hy⟩, HJ.out⟩⟩
end Go.Proofs.YtaielhafpmjkaaaGreatDoor
namespace Go.Proofs.YtaielhafpmjkaaaGreatDoor
open Go.RowKit Go.Shelf
def idxOf (q : Int → Bool) (ps : List Int) : Int := match ps.findIdx? q with | some i => i | none => -1
theorem idxOf_none {q : Int → Bool} {ps : List Int} (h : ∀ x ∈ ps, q x = false) : idxOf q ps = -1 := by
 unfold idxOf
 rw [List.findIdx?_eq_none_iff.2 h]
theorem idxOf_some {q : Int → Bool} {ps : List Int} {j : Nat} {x : Int} (hx : ps[j]? = some x) (hq : q x = true) (h : ∀ (i : Nat) (y : Int), i < j → ps[i]? = some y → q y = false) : idxOf q ps = j := by
 unfold idxOf
 obtain ⟨hj, e⟩ := List.getElem?_eq_some_iff.1 hx
 rw [List.findIdx?_eq_some_iff_getElem.2 ⟨hj, by rw [e]; exact hq, fun i hi => by rw [h i _ hi (List.getElem?_eq_getElem (by omega))]; decide⟩]
theorem idxOf_any (q : Int → Bool) (ps : List Int) : decide (0 ≤ idxOf q ps) = ps.any q := by
 unfold idxOf
 cases h : ps.findIdx? q with
 | none =>
  have h1 := List.findIdx?_eq_none_iff.1 h
  have : ps.any q = false := by rw [List.any_eq_false]; exact fun x hx => by rw [h1 x hx]; decide
  rw [this]
  rfl
 | some i =>
  obtain ⟨hi, h1, _⟩ := List.findIdx?_eq_some_iff_getElem.1 h
  have : ps.any q = true := List.any_eq_true.2 ⟨_, List.getElem_mem hi, h1⟩
  rw [this]
  simp
set_option maxRecDepth 100000 in
set_option maxHeartbeats 1000000 in
theorem index_j1 (d0 : Nat) (q : Int → Bool) (pv : SV) (ps : List Int) (w : World) (hP : At w 1 pv.A ps.length pv.c (ints ps)) (hq : ∀ (z : Bl w) (x : Int), x ∈ ps → Calls Tryz.prog 75 #[.int .i64 x, .pointer (some ⟨d0, 0, none⟩)] z.val (RetB (.bool (q x)) z.val)) : Calls Tryz.prog 102 #[.slice pv.A ps.length pv.c, .func (.func 75) #[] #[.pointer (some ⟨d0, 0, none⟩)]] w (RetB (.int .i64 (idxOf q ps)) w) := by
 obtain ⟨pA, pc⟩ := pv
 have hpx : ps.length ≤ 9223372036854775807 := by have h1 := hP.2.2.1; have h2 := hP.2.2.2; unfold maxLen at h2; omega
 have HP := Lib.hid hP; clear hP
 have HQ := Lib.hid hq; clear hq
 generalize hE : idxOf q ps = E
 have HE := Lib.hid hE; clear hE
 go_enter Tryz.func102, Tryz.ntmps102
 change Code.wp _ _ _ _ (Bl.val (⟨w, Below.refl _ _⟩ : Bl w))
 generalize (⟨w, Below.refl _ _⟩ : Bl w) = s0
 go_wp2
 go_loopg [8] ps.length (fun gk v8 wr => ∃ (j : Nat) (z : Bl w), gk = ps.length - j ∧ j ≤ ps.length ∧ v8 = .int .i64 j ∧ wr = z.val ∧ Hid (∀ (i : Nat) (y : Int), i < j → ps[i]? = some y → q y = false))
 case atStart => exact ⟨0, _, rfl, Nat.zero_le _, rfl, rfl, fun i y h => by omega⟩
 case round =>
  obtain ⟨j, z, hgk, hj, rfl, rfl, hpre⟩ := hrel
  have HGK := Lib.hid hgk; clear hgk
  by_cases hlt : j < ps.length
  · obtain ⟨x, hx⟩ : ∃ x, ps[j]? = some x := ⟨ps[j], List.getElem?_eq_getElem hlt⟩
    obtain ⟨b1, o1, hA1, _, hc1⟩ := (HP.out.below (by omega) z.prop).1.form (by omega) (by omega)
    try simp only at hA1
    subst hA1
    have e1 : z.val.cell? ⟨b1, o1 + j, none⟩ = some (.int .i64 x) := by rw [hc1 _ (by omega)]; simp only [ints, List.getElem?_map, hx, Option.map_some]
    have HC := Lib.hid (HQ.out z x (List.mem_of_getElem? hx))
    have HX := Lib.hid hx
    clear hc1 hx
    have j1 : (j : Int) < (ps.length : Int) := by omega
    cases hqx : q x with
    | false =>
     rw [hqx] at HC
     go_wp2_with (go_at_call 75; refine HC.out.mono ?_; rintro e z ⟨rfl, hz⟩; obtain ⟨z, rfl⟩ := Bl.on hz; clear hz)
     go_roundg (ps.length - (j + 1))
     case measure => have := HGK.out; omega
     case rel =>
      refine ⟨j + 1, _, rfl, by omega, by go_num, rfl, fun i y hi h1 => ?_⟩
      by_cases e : i = j
      · subst e
        rw [HX.out] at h1
        cases h1
        exact hqx
      · exact hpre.out i y (by omega) h1
    | true =>
     rw [hqx] at HC
     obtain rfl : E = j := by rw [← HE.out]; exact idxOf_some HX.out hqx hpre.out
     go_wp2_with (go_at_call 75; refine HC.out.mono ?_; rintro e z ⟨rfl, hz⟩; obtain ⟨z, rfl⟩ := Bl.on hz; clear hz)
     go_ret
     exact ⟨rfl, Bl.prop _⟩
  · have hjn : j = ps.length := by omega
    subst hjn
    obtain rfl : E = -1 := by
     rw [← HE.out]
     refine idxOf_none (fun x hx => ?_)
     obtain ⟨i, hi, rfl⟩ := List.mem_iff_getElem.1 hx
     exact hpre.out i _ hi (List.getElem?_eq_getElem hi)
    go_wp2
    go_ret
    exact ⟨rfl, Bl.prop _⟩
set_option maxRecDepth 100000 in
theorem contains_j1 (d0 : Nat) (q : Int → Bool) (pv : SV) (ps : List Int) (w : World) (hP : At w 1 pv.A ps.length pv.c (ints ps)) (hq : ∀ (z : Bl w) (x : Int), x ∈ ps → Calls Tryz.prog 75 #[.int .i64 x, .pointer (some ⟨d0, 0, none⟩)] z.val (RetB (.bool (q x)) z.val)) : Calls Tryz.prog 76 #[.slice pv.A ps.length pv.c, .func (.func 75) #[] #[.pointer (some ⟨d0, 0, none⟩)]] w (RetB (.bool (ps.any q)) w) := by
 obtain ⟨pA, pc⟩ := pv
 have HI := Lib.hid (index_j1 d0 q ⟨pA, pc⟩ ps w hP hq)
 clear hP hq
 rw [← idxOf_any]
 generalize idxOf q ps = r at HI ⊢
 go_enter Tryz.func76, Tryz.ntmps76
 go_wp2_with (go_at_call 102; refine HI.out.mono ?_; rintro e z ⟨rfl, hz⟩; refine Hid.out ?_)
 refine Lib.hid ?_
 go_wp2
 go_ret
 exact ⟨rfl, hz⟩
set_option maxRecDepth 100000 in
set_option maxHeartbeats 1000000 in
theorem index_j2 (d0 d1 d2 : Nat) (q : Int → Bool) (pv : SV) (ps : List Int) (w : World) (hP : At w 1 pv.A ps.length pv.c (ints ps)) (hq : ∀ (z : Bl w) (x : Int), x ∈ ps → Calls Tryz.prog 79 #[.int .i64 x, .pointer (some ⟨d0, 0, none⟩), .pointer (some ⟨d1, 0, none⟩), .pointer (some ⟨d2, 0, none⟩)] z.val (RetB (.bool (q x)) z.val)) : Calls Tryz.prog 102 #[.slice pv.A ps.length pv.c, .func (.func 79) #[] #[.pointer (some ⟨d0, 0, none⟩), .pointer (some ⟨d1, 0, none⟩), .pointer (some ⟨d2, 0, none⟩)]] w (RetB (.int .i64 (idxOf q ps)) w) := by
 obtain ⟨pA, pc⟩ := pv
 have hpx : ps.length ≤ 9223372036854775807 := by have h1 := hP.2.2.1; have h2 := hP.2.2.2; unfold maxLen at h2; omega
 have HP := Lib.hid hP; clear hP
 have HQ := Lib.hid hq; clear hq
 generalize hE : idxOf q ps = E
 have HE := Lib.hid hE; clear hE
 go_enter Tryz.func102, Tryz.ntmps102
 change Code.wp _ _ _ _ (Bl.val (⟨w, Below.refl _ _⟩ : Bl w))
 generalize (⟨w, Below.refl _ _⟩ : Bl w) = s0
 go_wp2
 go_loopg [8] ps.length (fun gk v8 wr => ∃ (j : Nat) (z : Bl w), gk = ps.length - j ∧ j ≤ ps.length ∧ v8 = .int .i64 j ∧ wr = z.val ∧ Hid (∀ (i : Nat) (y : Int), i < j → ps[i]? = some y → q y = false))
 case atStart => exact ⟨0, _, rfl, Nat.zero_le _, rfl, rfl, fun i y h => by omega⟩
 case round =>
  obtain ⟨j, z, hgk, hj, rfl, rfl, hpre⟩ := hrel
  have HGK := Lib.hid hgk; clear hgk
  by_cases hlt : j < ps.length
  · obtain ⟨x, hx⟩ : ∃ x, ps[j]? = some x := ⟨ps[j], List.getElem?_eq_getElem hlt⟩
    obtain ⟨b1, o1, hA1, _, hc1⟩ := (HP.out.below (by omega) z.prop).1.form (by omega) (by omega)
    try simp only at hA1
    subst hA1
    have e1 : z.val.cell? ⟨b1, o1 + j, none⟩ = some (.int .i64 x) := by rw [hc1 _ (by omega)]; simp only [ints, List.getElem?_map, hx, Option.map_some]
    have HC := Lib.hid (HQ.out z x (List.mem_of_getElem? hx))
    have HX := Lib.hid hx
    clear hc1 hx
    have j1 : (j : Int) < (ps.length : Int) := by omega
    cases hqx : q x with
    | false =>
     rw [hqx] at HC
     go_wp2_with (go_at_call 79; refine HC.out.mono ?_; rintro e z ⟨rfl, hz⟩; obtain ⟨z, rfl⟩ := Bl.on hz; clear hz)
     go_roundg (ps.length - (j + 1))
     case measure => have := HGK.out; omega
     case rel =>
      refine ⟨j + 1, _, rfl, by omega, by go_num, rfl, fun i y hi h1 => ?_⟩
      by_cases e : i = j
      · subst e
        rw [HX.out] at h1
        cases h1
        exact hqx
      · exact hpre.out i y (by omega) h1
    | true =>
     rw [hqx] at HC
     obtain rfl : E = j := by rw [← HE.out]; exact idxOf_some HX.out hqx hpre.out
     go_wp2_with (go_at_call 79; refine HC.out.mono ?_; rintro e z ⟨rfl, hz⟩; obtain ⟨z, rfl⟩ := Bl.on hz; clear hz)
     go_ret
     exact ⟨rfl, Bl.prop _⟩
  · have hjn : j = ps.length := by omega
    subst hjn
    obtain rfl : E = -1 := by
     rw [← HE.out]
     refine idxOf_none (fun x hx => ?_)
     obtain ⟨i, hi, rfl⟩ := List.mem_iff_getElem.1 hx
     exact hpre.out i _ hi (List.getElem?_eq_getElem hi)
    go_wp2
    go_ret
    exact ⟨rfl, Bl.prop _⟩
set_option maxRecDepth 100000 in
theorem contains_j2 (d0 d1 d2 : Nat) (q : Int → Bool) (pv : SV) (ps : List Int) (w : World) (hP : At w 1 pv.A ps.length pv.c (ints ps)) (hq : ∀ (z : Bl w) (x : Int), x ∈ ps → Calls Tryz.prog 79 #[.int .i64 x, .pointer (some ⟨d0, 0, none⟩), .pointer (some ⟨d1, 0, none⟩), .pointer (some ⟨d2, 0, none⟩)] z.val (RetB (.bool (q x)) z.val)) : Calls Tryz.prog 76 #[.slice pv.A ps.length pv.c, .func (.func 79) #[] #[.pointer (some ⟨d0, 0, none⟩), .pointer (some ⟨d1, 0, none⟩), .pointer (some ⟨d2, 0, none⟩)]] w (RetB (.bool (ps.any q)) w) := by
 obtain ⟨pA, pc⟩ := pv
 have HI := Lib.hid (index_j2 d0 d1 d2 q ⟨pA, pc⟩ ps w hP hq)
 clear hP hq
 rw [← idxOf_any]
 generalize idxOf q ps = r at HI ⊢
 go_enter Tryz.func76, Tryz.ntmps76
 go_wp2_with (go_at_call 102; refine HI.out.mono ?_; rintro e z ⟨rfl, hz⟩; refine Hid.out ?_)
 refine Lib.hid ?_
 go_wp2
 go_ret
 exact ⟨rfl, hz⟩
theorem strange_any (bc : Nat) (v : CV) (C : KCon) (x : Int) (w : World) (hc : w.heap[bc]? = some (.cells (v.cells C).toArray 27 (0, 0))) : Calls Tryz.prog 75 #[.int .i64 x, .pointer (some ⟨bc, 0, none⟩)] w (RetB (.bool (decide (x < 0) || decide (C.parties ≤ x))) w) := by
 have c0 : w.cell? ⟨bc, 0, none⟩ = some (.int .i64 C.parties) := (cell_of_row _ _ 0 _ _ _ hc).trans rfl
 clear hc
 cases h1 : decide (x < 0) <;> cases h2 : decide (C.parties ≤ x)
 all_goals
  go_enter Tryz.func75, Tryz.ntmps75
  go_wp2
  go_ret
  exact ⟨rfl, Below.refl _ _⟩
set_option maxRecDepth 100000 in
theorem seesOne_any (bc bs ba : Nat) (v : CV) (C : KCon) (tv : TV) (s : KState) (i : Nat) (a : KAct) (x : Int) (w : World) (hC : ConAt w v C) (hS : StateAt w tv s) (ha : C.acts[i]? = some a) (hpos : 0 < s.holders.length)
 (hto : (a.kind == 1) = true → (a.tgt == -1) = false → 0 ≤ a.tgt ∧ a.tgt < s.holders.length) (hro : (a.role == -1) = false → 0 ≤ a.role ∧ a.role < s.holders.length)
 (hc : w.heap[bc]? = some (.cells (v.cells C).toArray 27 (0, 0))) (hs : w.heap[bs]? = some (.cells (tv.cells s).toArray 43 (0, 0))) (hi : w.heap[ba]? = some (.cells #[.int .i64 i] 3 (0, 0))) :
 Calls Tryz.prog 79 #[.int .i64 x, .pointer (some ⟨bc, 0, none⟩), .pointer (some ⟨bs, 0, none⟩), .pointer (some ⟨ba, 0, none⟩)] w (RetB (.bool (seesK s a x)) w) := by
 obtain ⟨⟨vhA, vhc⟩, ⟨vuA, vuc⟩, ⟨vaA, vac⟩, ⟨vkA, vkc⟩, ⟨voA, voc⟩⟩ := v
 obtain ⟨⟨thA, thc⟩, ⟨tuA, tuc⟩, ⟨tmA, tmc⟩⟩ := tv
 have c0 : w.cell? ⟨bc, 0, none⟩ = some (.int .i64 C.parties) := (cell_of_row _ _ 0 _ _ _ hc).trans rfl
 have c1 : w.cell? ⟨bc, 1, none⟩ = some (.slice vhA C.holders.length vhc) := (cell_of_row _ _ 1 _ _ _ hc).trans rfl
 have c2 : w.cell? ⟨bc, 2, none⟩ = some (.slice vuA C.units.length vuc) := (cell_of_row _ _ 2 _ _ _ hc).trans rfl
 have c3 : w.cell? ⟨bc, 3, none⟩ = some (.slice vaA C.acts.length vac) := (cell_of_row _ _ 3 _ _ _ hc).trans rfl
 have c4 : w.cell? ⟨bc, 4, none⟩ = some (.slice vkA C.clauses.length vkc) := (cell_of_row _ _ 4 _ _ _ hc).trans rfl
 have c5 : w.cell? ⟨bc, 5, none⟩ = some (.int .i64 C.days) := (cell_of_row _ _ 5 _ _ _ hc).trans rfl
 have c6 : w.cell? ⟨bc, 6, none⟩ = some (.slice voA C.off.length voc) := (cell_of_row _ _ 6 _ _ _ hc).trans rfl
 have d0 : w.cell? ⟨bs, 0, none⟩ = some (.int .i64 s.day) := (cell_of_row _ _ 0 _ _ _ hs).trans rfl
 have d1 : w.cell? ⟨bs, 1, none⟩ = some (.slice thA s.holders.length thc) := (cell_of_row _ _ 1 _ _ _ hs).trans rfl
 have d2 : w.cell? ⟨bs, 2, none⟩ = some (.slice tuA s.used.length tuc) := (cell_of_row _ _ 2 _ _ _ hs).trans rfl
 have d3 : w.cell? ⟨bs, 3, none⟩ = some (.slice tmA s.marks.length tmc) := (cell_of_row _ _ 3 _ _ _ hs).trans rfl
 have e0 : w.cell? ⟨ba, 0, none⟩ = some (.int .i64 i) := (cell_of_row _ _ 0 _ _ _ hi).trans rfl
 have HC := Lib.hid (sees_any (⟨⟨vhA, vhc⟩, ⟨vuA, vuc⟩, ⟨vaA, vac⟩, ⟨vkA, vkc⟩, ⟨voA, voc⟩⟩ : CV) C (⟨⟨thA, thc⟩, ⟨tuA, tuc⟩, ⟨tmA, tmc⟩⟩ : TV) s x i a w hC hS ha hpos hto hro)
 simp only [CV.val, CV.cells, TV.val, TV.cells, KState.cells] at HC
 clear hc hs hi hC hS ha hpos hto hro
 go_enter Tryz.func79, Tryz.ntmps79
 go_wp2_with (go_at_call 50; refine HC.out.mono ?_; rintro e z ⟨rfl, hz⟩; refine Hid.out ?_)
 refine Lib.hid ?_
 go_wp2
 go_ret
 exact ⟨rfl, hz⟩
theorem sees_eq {C : KCon} {s : KState} {x : Int} (hO : StateOk C s) {i : Nat} {a : KAct} (ha : C.acts[i]? = some a) (h0 : 0 ≤ x) (h1 : x < C.parties) : C.sees s x i = seesK s a x := by
 unfold KCon.sees KCon.seesAt
 have hi : i < C.acts.length := (List.getElem?_eq_some_iff.1 ha).1
 have e1 : C.okState s = true := (okState_iff C s).2 hO
 have e2 : decide (0 ≤ x) = true := by simpa using h0
 have e3 : decide (x < C.parties) = true := by simpa using h1
 have e4 : decide ((0 : Int) ≤ i) = true := by simp
 have e5 : decide ((i : Int) < C.acts.length) = true := by simpa using hi
 simp only [e1, e2, e3, e4, e5, Bool.true_and, Int.toNat_natCast, ha]
set_option maxRecDepth 100000 in
set_option maxHeartbeats 1000000 in
theorem somebody_any (bp bc : Nat) (v : CV) (C : KCon) (pv : SV) (ps : List Int) (tv : TV) (s : KState) (i : Nat) (w : World) (hC : ConAt w v C) (hS : StateAt w tv s) (hO : StateOk C s) (hil : i < C.acts.length) (hP : At w 1 pv.A ps.length pv.c (ints ps)) (hps : ∀ x ∈ ps, 0 ≤ x ∧ x < C.parties)
 (hc : w.heap[bc]? = some (.cells (v.cells C).toArray 27 (0, 0))) (hb : w.heap[bp]? = some (.cells #[.slice pv.A ps.length pv.c] 22 (0, 0))) :
 Calls Tryz.prog 78 #[tv.val s, .int .i64 i, .pointer (some ⟨bp, 0, none⟩), .pointer (some ⟨bc, 0, none⟩)] w (RetB (.bool (ps.any (fun x => C.sees s x i))) w) := by
 obtain ⟨a, ha⟩ : ∃ a, C.acts[i]? = some a := ⟨C.acts[i], List.getElem?_eq_getElem hil⟩
 obtain ⟨pA, pc⟩ := pv
 have hb0 : w.cell? ⟨bp, 0, none⟩ = some (.slice pA ps.length pc) := (cell_of_row _ _ 0 _ _ _ hb).trans rfl
 have hbp := lt_of_heap hb
 obtain ⟨W0, HW0⟩ : ∃ W0, Hid (W0 = (w.alloc (.cells (tv.cells s).toArray 43)).alloc (.cells #[.int .i64 i] 3)) := ⟨_, rfl⟩
 have HB : Hid (Below w.heap.size w W0) := by show Below _ _ _; rw [HW0.out]; exact Below.alloc' (Below.alloc' (Below.refl _ _) _) _
 have hx0 : W0.heap[w.heap.size]? = some (.cells (tv.cells s).toArray 43 (0, 0)) := by rw [HW0.out]; exact (Below.heap_alloc (w.alloc (.cells (tv.cells s).toArray 43)) _ (w.heap.size) (by simp)).trans (heap_alloc_new w _)
 have hx1 : W0.heap[w.heap.size + 1]? = some (.cells #[.int .i64 i] 3 (0, 0)) := by rw [HW0.out]; exact (by have h := heap_alloc_new (w.alloc (.cells (tv.cells s).toArray 43)) (.cells #[.int .i64 i] 3); simp only [World.size_alloc] at h; exact h)
 have kOk := (KCon.ok hO.con).acts a (List.mem_of_getElem? ha)
 have hcon : ∀ (z : Bl W0) (x : Int), x ∈ ps → Calls Tryz.prog 79 #[.int .i64 x, .pointer (some ⟨bc, 0, none⟩), .pointer (some ⟨w.heap.size, 0, none⟩), .pointer (some ⟨w.heap.size + 1, 0, none⟩)] z.val (RetB (.bool (C.sees s x i)) z.val) := fun z x hx => by
  rw [sees_eq hO ha (hps x hx).1 (hps x hx).2]
  refine seesOne_any bc w.heap.size (w.heap.size + 1) v C tv s i a x z.val (hC.below (Below.step HB.out z.prop)) (hS.below (Below.step HB.out z.prop)) ha ?_ ?_ ?_ ?_ ?_ ?_
  · rw [hO.lh]; have := (KCon.ok hO.con).roles; omega
  · intro h1 h2
    have := (okAct_roles kOk).1 h1 h2
    unfold KCon.role at this
    simp only [Bool.and_eq_true, decide_eq_true_eq] at this
    rw [hO.lh]; exact this
  · intro h1
    have := (okAct_roles kOk).2 h1
    unfold KCon.role at this
    simp only [Bool.and_eq_true, decide_eq_true_eq] at this
    rw [hO.lh]; exact this
  · rw [(Below.step HB.out z.prop).block bc (lt_of_heap hc)]; exact hc
  · rw [z.prop.block _ (lt_of_heap hx0)]; exact hx0
  · rw [z.prop.block _ (lt_of_heap hx1)]; exact hx1
 have HCO := Lib.hid (contains_j2 bc w.heap.size (w.heap.size + 1) (fun x => C.sees s x i) ⟨pA, pc⟩ ps W0 (hP.below (by omega) HB.out) hcon)
 generalize ps.any (fun x => C.sees s x i) = r at HCO ⊢
 obtain ⟨⟨thA, thc⟩, ⟨tuA, tuc⟩, ⟨tmA, tmc⟩⟩ := tv
 simp only [TV.val, TV.cells, KState.cells] at HW0 ⊢
 clear hC hS hO hP hps hc hb hx0 hx1 kOk hcon ha
 go_enter Tryz.func78, Tryz.ntmps78
 go_upto_region 1 with (fail)
 have c1 : W0.cell? ⟨bp, 0, none⟩ = some (.slice pA ps.length pc) := by rw [HB.out.cell (p := ⟨bp, 0, none⟩) hbp]; exact hb0
 rw [← HW0.out]
 go_wp2_with (go_at_call 76; refine HCO.out.mono ?_; rintro e z ⟨rfl, hz⟩; refine Hid.out ?_)
 refine Lib.hid ?_
 go_wp2
 go_ret
 exact ⟨rfl, Below.step HB.out hz⟩
end Go.Proofs.YtaielhafpmjkaaaGreatDoor
