/-
  Data
-/
import Derived.Test.YtahhdjeclbagnaaGreatDoorQ00
import Derived.Test.YtahhdjeclbagnaaGreatDoorProg
import Derived.Deep.RegionHeld3
namespace Go.Proofs.YtahhdjeclbagnaaGreatDoor
open Go.RowKit
structure KRatio where
 num : Int
 den : Int
structure KAct where
 kind : Int
 role : Int
 give : Int
 tgt : Int
 unit : Int
 lot : KRatio
structure KCond where
 clause : Int
 is : Int
structure KClause where
 kind : Int
 role : Int
 act : Int
 need : Int
 start : List KCond
 after : Int
 grace : Int
 business : Bool
 final : Bool
 pause : Int
 resume : Int
 value : KRatio
 unit : Int
 tgt : Int
 waived : Bool
structure KUnit where
 name : ByteArray
 kind : Int
 base : Int
 factor : KRatio
structure KCon where
 parties : Int
 holders : List Int
 units : List KUnit
 acts : List KAct
 clauses : List KClause
 days : Int
 off : List Int
structure KMark where
 status : Int
 left : Int
 got : Int
 bearer : Int
 paused : Bool
structure KState where
 day : Int
 holders : List Int
 used : List Bool
 marks : List KMark
structure KBelief where
 party : Int
 states : List KState
def ints (l : List Int) : List Value := l.map (Value.int .i64)
def bools (l : List Bool) : List Value := l.map Value.bool
def KRatio.cells (r : KRatio) : List Value := [.int .i64 r.num, .int .i64 r.den]
def KAct.cells (a : KAct) : List Value := [.int .i64 a.kind, .int .i64 a.role, .int .i64 a.give, .int .i64 a.tgt, .int .i64 a.unit, .int .i64 a.lot.num, .int .i64 a.lot.den]
def KCond.cells (k : KCond) : List Value := [.int .i64 k.clause, .int .i64 k.is]
def KUnit.cells (u : KUnit) : List Value := [.string u.name, .int .i64 u.kind, .int .i64 u.base, .int .i64 u.factor.num, .int .i64 u.factor.den]
def KMark.cells (m : KMark) : List Value := [.int .i64 m.status, .int .i64 m.left, .int .i64 m.got, .int .i64 m.bearer, .bool m.paused]
structure SV where
 A : Option Addr
 c : Nat
def SV.val (s : SV) (n : Nat) : Value := .slice s.A n s.c
def KClause.cells (k : KClause) (s : SV) : List Value :=
 [.int .i64 k.kind, .int .i64 k.role, .int .i64 k.act, .int .i64 k.need, .slice s.A k.start.length s.c, .int .i64 k.after, .int .i64 k.grace, .bool k.business, .bool k.final, .int .i64 k.pause, .int .i64 k.resume, .int .i64 k.value.num, .int .i64 k.value.den, .int .i64 k.unit, .int .i64 k.tgt, .bool k.waived]
def KState.cells (s : KState) (h u m : SV) : List Value := [.int .i64 s.day, .slice h.A s.holders.length h.c, .slice u.A s.used.length u.c, .slice m.A s.marks.length m.c]
structure CV where
 h : SV
 u : SV
 a : SV
 k : SV
 o : SV
def CV.cells (v : CV) (C : KCon) : List Value := [.int .i64 C.parties, .slice v.h.A C.holders.length v.h.c, .slice v.u.A C.units.length v.u.c, .slice v.a.A C.acts.length v.a.c, .slice v.k.A C.clauses.length v.k.c, .int .i64 C.days, .slice v.o.A C.off.length v.o.c]
def CV.val (v : CV) (C : KCon) : Value := .agg (v.cells C).toArray
def ClausesAt (w : World) (s : SV) (l : List KClause) : Prop :=
 ∃ ss : List SV, ss.length = l.length ∧ At w 16 s.A l.length s.c ((l.zip ss).flatMap (fun p => p.1.cells p.2)) ∧ ∀ (i : Nat) (k : KClause) (t : SV), l[i]? = some k → ss[i]? = some t → At w 2 t.A k.start.length t.c (k.start.flatMap KCond.cells)
structure ConAt (w : World) (v : CV) (C : KCon) : Prop where
 holders : At w 1 v.h.A C.holders.length v.h.c (ints C.holders)
 units : At w 5 v.u.A C.units.length v.u.c (C.units.flatMap KUnit.cells)
 acts : At w 7 v.a.A C.acts.length v.a.c (C.acts.flatMap KAct.cells)
 clauses : ClausesAt w v.k C.clauses
 off : At w 1 v.o.A C.off.length v.o.c (ints C.off)
theorem ConAt.below {w w' : World} {v : CV} {C : KCon} (h : ConAt w v C) (hb : Below w.heap.size w w') : ConAt w' v C := by
 refine ⟨h.holders.below (by omega) hb, h.units.below (by omega) hb, h.acts.below (by omega) hb, ?_, h.off.below (by omega) hb⟩
 obtain ⟨ss, h1, h2, h3⟩ := h.clauses
 exact ⟨ss, h1, h2.below (by omega) hb, fun i k t hk ht => (h3 i k t hk ht).below (by omega) hb⟩
structure TV where
 h : SV
 u : SV
 m : SV
def TV.cells (v : TV) (s : KState) : List Value := s.cells v.h v.u v.m
def TV.val (v : TV) (s : KState) : Value := .agg (v.cells s).toArray
structure StateAt (w : World) (v : TV) (s : KState) : Prop where
 holders : At w 1 v.h.A s.holders.length v.h.c (ints s.holders)
 used : At w 1 v.u.A s.used.length v.u.c (bools s.used)
 marks : At w 5 v.m.A s.marks.length v.m.c (s.marks.flatMap KMark.cells)
theorem StateAt.below {w w' : World} {v : TV} {s : KState} (h : StateAt w v s) (hb : Below w.heap.size w w') : StateAt w' v s :=
 ⟨h.holders.below (by omega) hb, h.used.below (by omega) hb, h.marks.below (by omega) hb⟩
theorem Below.step {w X z : World} (h : Below w.heap.size w X) (hz : Below X.heap.size X z) : Below w.heap.size w z := h.trans (hz.mono h.size)
theorem Below.alloc' {w X : World} (h : Below w.heap.size w X) (o : Obj) : Below w.heap.size w (X.alloc o) := h.alloc h.size o
theorem bcell {W w1 : World} (hb : Below W.heap.size W w1) : (∀ b o, b < W.heap.size → w1.cell? ⟨b, o, none⟩ = W.cell? ⟨b, o, none⟩) ∧ (∀ b o, b < W.heap.size → w1.frozen? ⟨b, o, none⟩ = W.frozen? ⟨b, o, none⟩) :=
 ⟨fun b o h => hb.cell (p := ⟨b, o, none⟩) h, fun b o h => hb.frozen (p := ⟨b, o, none⟩) h⟩
structure Bl (W0 : World) where
 val : World
 prop : Below W0.heap.size W0 val
instance (W0 : World) : Inhabited (Bl W0) := ⟨⟨W0, Below.refl _ _⟩⟩
theorem Bl.on {W0 : World} {s : Bl W0} {z : World} (hz : Below s.val.heap.size s.val z) : ∃ z' : Bl W0, z = z'.val := ⟨⟨z, Below.step s.prop hz⟩, rfl⟩
theorem Bl.onDrew {W0 : World} {s : Bl W0} {z : World} (hz : Below s.val.drew.heap.size s.val.drew z) : ∃ z' : Bl W0, z = z'.val := ⟨⟨z, Below.step s.prop.drew hz⟩, rfl⟩
theorem Bl.cell {W0 : World} (s : Bl W0) {b o : Nat} {u : Value} (h : W0.cell? ⟨b, o, none⟩ = some u) : s.val.cell? ⟨b, o, none⟩ = some u := by
 rw [s.prop.cell (p := ⟨b, o, none⟩) (World.block_lt_of_cell? W0 ⟨b, o, none⟩ h), h]
theorem Calls.bl_of {P : Program} {f : FuncId} {args : Array Value} {W0 : World} {s : Bl W0} {v : Value} (h : Calls P f args s.val (RetB v s.val)) : Calls P f args s.val (fun e w'' => e = .returned v ∧ ∃ s' : Bl W0, w'' = s'.val) :=
 h.mono fun _ w'' ⟨he, hb⟩ => ⟨he, ⟨⟨w'', Below.step s.prop hb⟩, rfl⟩⟩
theorem wp_region_bl {P : Program} {id : Nat} {Q : Exit → Act → World → Prop} {a : Act} {W0 : World} {s : Bl W0} {l : List Oper} (hm : P.follows .mixedOrders = true) (hB : Region.lexB .any l.toArray = true)
 (h : wpQuiet P l.toArray (fun w' => ∃ s : Bl W0, w' = s.val) (fun a' => ∀ w', (∃ s : Bl W0, w' = s.val) → Q .normal a' w') l a) : (Code.region id l.toArray true).wp P Q a s.val :=
 wp_region_quiet (C := fun w' => ∃ s : Bl W0, w' = s.val) hm hB ⟨⟨s.val.drew, s.prop.drew⟩, rfl⟩ (by simpa using h)
theorem kcell {W : World} {g i : Nat} {cs : Array Value} {t : TypeId} {u : Value} (h : W.heap[g]? = some (.cells cs t (0, 0))) (hu : cs[i]? = some u) : ∀ z : Bl W, z.val.cell? ⟨g, i, none⟩ = some u := fun z => z.cell ((cell_of_row W _ i _ _ _ h).trans hu)
theorem kup {W W' : World} {g i : Nat} {u : Value} (hp : Below W.heap.size W W') (k : ∀ z : Bl W, z.val.cell? ⟨g, i, none⟩ = some u) : ∀ z : Bl W', z.val.cell? ⟨g, i, none⟩ = some u := fun z => k ⟨z.val, Below.step hp z.prop⟩
theorem kup' {W W' : World} {g i : Nat} {u : Value} (hp : ∀ z : Bl W', Below W.heap.size W z.val) (k : ∀ z : Bl W, z.val.cell? ⟨g, i, none⟩ = some u) : ∀ z : Bl W', z.val.cell? ⟨g, i, none⟩ = some u := fun z => k ⟨z.val, hp z⟩
theorem hbl {w : World} {o : Obj} {i : Nat} {x : Option Obj} (h : i < w.heap.size) (h2 : w.heap[i]? = x) : (w.alloc o).heap[i]? = x := (Below.heap_alloc w o i h).trans h2
theorem hat {w : World} {cs : Array Value} {t : TypeId} {n : Nat} (h : w.heap.size = n) : (w.alloc (.cells cs t)).heap[n]? = some (.cells cs t (0, 0)) := by subst h; exact heap_alloc_new w _
theorem kc2 {W : World} {g : Nat} {a0 a1 : Value} {t : TypeId} (h : W.heap[g]? = some (.cells #[a0, a1] t (0, 0))) : (∀ z : Bl W, z.val.cell? ⟨g, 0, none⟩ = some a0) ∧ (∀ z : Bl W, z.val.cell? ⟨g, 1, none⟩ = some a1) := ⟨kcell h rfl, kcell h rfl⟩
theorem kc3 {W : World} {g : Nat} {a0 a1 a2 : Value} {t : TypeId} (h : W.heap[g]? = some (.cells #[a0, a1, a2] t (0, 0))) : (∀ z : Bl W, z.val.cell? ⟨g, 0, none⟩ = some a0) ∧ (∀ z : Bl W, z.val.cell? ⟨g, 1, none⟩ = some a1) ∧ (∀ z : Bl W, z.val.cell? ⟨g, 2, none⟩ = some a2) := ⟨kcell h rfl, kcell h rfl, kcell h rfl⟩
theorem kc4 {W : World} {g : Nat} {a0 a1 a2 a3 : Value} {t : TypeId} (h : W.heap[g]? = some (.cells #[a0, a1, a2, a3] t (0, 0))) : (∀ z : Bl W, z.val.cell? ⟨g, 0, none⟩ = some a0) ∧ (∀ z : Bl W, z.val.cell? ⟨g, 1, none⟩ = some a1) ∧ (∀ z : Bl W, z.val.cell? ⟨g, 2, none⟩ = some a2) ∧ (∀ z : Bl W, z.val.cell? ⟨g, 3, none⟩ = some a3) := ⟨kcell h rfl, kcell h rfl, kcell h rfl, kcell h rfl⟩
theorem kc5 {W : World} {g : Nat} {a0 a1 a2 a3 a4 : Value} {t : TypeId} (h : W.heap[g]? = some (.cells #[a0, a1, a2, a3, a4] t (0, 0))) : (∀ z : Bl W, z.val.cell? ⟨g, 0, none⟩ = some a0) ∧ (∀ z : Bl W, z.val.cell? ⟨g, 1, none⟩ = some a1) ∧ (∀ z : Bl W, z.val.cell? ⟨g, 2, none⟩ = some a2) ∧ (∀ z : Bl W, z.val.cell? ⟨g, 3, none⟩ = some a3) ∧ (∀ z : Bl W, z.val.cell? ⟨g, 4, none⟩ = some a4) := ⟨kcell h rfl, kcell h rfl, kcell h rfl, kcell h rfl, kcell h rfl⟩
theorem kc6 {W : World} {g : Nat} {a0 a1 a2 a3 a4 a5 : Value} {t : TypeId} (h : W.heap[g]? = some (.cells #[a0, a1, a2, a3, a4, a5] t (0, 0))) : (∀ z : Bl W, z.val.cell? ⟨g, 0, none⟩ = some a0) ∧ (∀ z : Bl W, z.val.cell? ⟨g, 1, none⟩ = some a1) ∧ (∀ z : Bl W, z.val.cell? ⟨g, 2, none⟩ = some a2) ∧ (∀ z : Bl W, z.val.cell? ⟨g, 3, none⟩ = some a3) ∧ (∀ z : Bl W, z.val.cell? ⟨g, 4, none⟩ = some a4) ∧ (∀ z : Bl W, z.val.cell? ⟨g, 5, none⟩ = some a5) := ⟨kcell h rfl, kcell h rfl, kcell h rfl, kcell h rfl, kcell h rfl, kcell h rfl⟩
theorem kc7 {W : World} {g : Nat} {a0 a1 a2 a3 a4 a5 a6 : Value} {t : TypeId} (h : W.heap[g]? = some (.cells #[a0, a1, a2, a3, a4, a5, a6] t (0, 0))) : (∀ z : Bl W, z.val.cell? ⟨g, 0, none⟩ = some a0) ∧ (∀ z : Bl W, z.val.cell? ⟨g, 1, none⟩ = some a1) ∧ (∀ z : Bl W, z.val.cell? ⟨g, 2, none⟩ = some a2) ∧ (∀ z : Bl W, z.val.cell? ⟨g, 3, none⟩ = some a3) ∧ (∀ z : Bl W, z.val.cell? ⟨g, 4, none⟩ = some a4) ∧ (∀ z : Bl W, z.val.cell? ⟨g, 5, none⟩ = some a5) ∧ (∀ z : Bl W, z.val.cell? ⟨g, 6, none⟩ = some a6) := ⟨kcell h rfl, kcell h rfl, kcell h rfl, kcell h rfl, kcell h rfl, kcell h rfl, kcell h rfl⟩
theorem kc14 {W : World} {g : Nat} {a0 a1 a2 a3 a4 a5 a6 a7 a8 a9 a10 a11 a12 a13 : Value} {t : TypeId} (h : W.heap[g]? = some (.cells #[a0, a1, a2, a3, a4, a5, a6, a7, a8, a9, a10, a11, a12, a13] t (0, 0))) : (∀ z : Bl W, z.val.cell? ⟨g, 0, none⟩ = some a0) ∧ (∀ z : Bl W, z.val.cell? ⟨g, 1, none⟩ = some a1) ∧ (∀ z : Bl W, z.val.cell? ⟨g, 2, none⟩ = some a2) ∧ (∀ z : Bl W, z.val.cell? ⟨g, 3, none⟩ = some a3) ∧ (∀ z : Bl W, z.val.cell? ⟨g, 4, none⟩ = some a4) ∧ (∀ z : Bl W, z.val.cell? ⟨g, 5, none⟩ = some a5) ∧ (∀ z : Bl W, z.val.cell? ⟨g, 6, none⟩ = some a6) ∧ (∀ z : Bl W, z.val.cell? ⟨g, 7, none⟩ = some a7) ∧ (∀ z : Bl W, z.val.cell? ⟨g, 8, none⟩ = some a8) ∧ (∀ z : Bl W, z.val.cell? ⟨g, 9, none⟩ = some a9) ∧ (∀ z : Bl W, z.val.cell? ⟨g, 10, none⟩ = some a10) ∧ (∀ z : Bl W, z.val.cell? ⟨g, 11, none⟩ = some a11) ∧ (∀ z : Bl W, z.val.cell? ⟨g, 12, none⟩ = some a12) ∧ (∀ z : Bl W, z.val.cell? ⟨g, 13, none⟩ = some a13) := ⟨kcell h rfl, kcell h rfl, kcell h rfl, kcell h rfl, kcell h rfl, kcell h rfl, kcell h rfl, kcell h rfl, kcell h rfl, kcell h rfl, kcell h rfl, kcell h rfl, kcell h rfl, kcell h rfl⟩
theorem kc16 {W : World} {g : Nat} {a0 a1 a2 a3 a4 a5 a6 a7 a8 a9 a10 a11 a12 a13 a14 a15 : Value} {t : TypeId} (h : W.heap[g]? = some (.cells #[a0, a1, a2, a3, a4, a5, a6, a7, a8, a9, a10, a11, a12, a13, a14, a15] t (0, 0))) : (∀ z : Bl W, z.val.cell? ⟨g, 0, none⟩ = some a0) ∧ (∀ z : Bl W, z.val.cell? ⟨g, 1, none⟩ = some a1) ∧ (∀ z : Bl W, z.val.cell? ⟨g, 2, none⟩ = some a2) ∧ (∀ z : Bl W, z.val.cell? ⟨g, 3, none⟩ = some a3) ∧ (∀ z : Bl W, z.val.cell? ⟨g, 4, none⟩ = some a4) ∧ (∀ z : Bl W, z.val.cell? ⟨g, 5, none⟩ = some a5) ∧ (∀ z : Bl W, z.val.cell? ⟨g, 6, none⟩ = some a6) ∧ (∀ z : Bl W, z.val.cell? ⟨g, 7, none⟩ = some a7) ∧ (∀ z : Bl W, z.val.cell? ⟨g, 8, none⟩ = some a8) ∧ (∀ z : Bl W, z.val.cell? ⟨g, 9, none⟩ = some a9) ∧ (∀ z : Bl W, z.val.cell? ⟨g, 10, none⟩ = some a10) ∧ (∀ z : Bl W, z.val.cell? ⟨g, 11, none⟩ = some a11) ∧ (∀ z : Bl W, z.val.cell? ⟨g, 12, none⟩ = some a12) ∧ (∀ z : Bl W, z.val.cell? ⟨g, 13, none⟩ = some a13) ∧ (∀ z : Bl W, z.val.cell? ⟨g, 14, none⟩ = some a14) ∧ (∀ z : Bl W, z.val.cell? ⟨g, 15, none⟩ = some a15) := ⟨kcell h rfl, kcell h rfl, kcell h rfl, kcell h rfl, kcell h rfl, kcell h rfl, kcell h rfl, kcell h rfl, kcell h rfl, kcell h rfl, kcell h rfl, kcell h rfl, kcell h rfl, kcell h rfl, kcell h rfl, kcell h rfl⟩
theorem hat2 {w : World} {o : Obj} : (w.alloc o).heap[w.heap.size]? = some o := heap_alloc_new w o
theorem hat2s {w : World} {o : Obj} {n : Nat} (h : w.heap.size = n) : (w.alloc o).heap[n]? = some o := by subst h; exact heap_alloc_new w o
theorem hbl2 {w : World} {o : Obj} {i : Nat} {x : Option Obj} (h : i < w.heap.size) (h2 : w.heap[i]? = x) : (w.alloc o).heap[i]? = x := (Below.heap_alloc w o i h).trans h2
theorem fcell {W : World} {g i : Nat} {cs : Array Value} {t : TypeId} (h : W.heap[g]? = some (.cells cs t (0, 0))) : ∀ z : Bl W, z.val.frozen? ⟨g, i, none⟩ = false := fun z => by rw [(bcell z.prop).2 _ _ (lt_of_heap h)]; simp [World.frozen?, h]
theorem bx1' {w W0 : World} {o : Obj} (h : w.alloc o = W0) : Below w.heap.size w W0 ∧ W0.heap[w.heap.size]? = some o := by subst h; exact ⟨Below.alloc' (Below.refl _ _) _, hat2⟩
theorem bx1 {w W0 : World} {o0 : Obj} (h : (w.alloc o0) = W0) : Hid (Below w.heap.size w W0) ∧ W0.heap[w.heap.size]? = some o0 := by subst h; exact ⟨Below.alloc' (Below.refl _ _) _, hat2⟩
theorem bx2 {w W0 : World} {o0 o1 : Obj} (h : ((w.alloc o0).alloc o1) = W0) : Hid (Below w.heap.size w W0) ∧ W0.heap[w.heap.size]? = some o0 ∧ W0.heap[w.heap.size + 1]? = some o1 := by subst h; exact ⟨Below.alloc' (Below.alloc' (Below.refl _ _) _) _, (hbl2 (by simp only [World.size_alloc]; omega) hat2), (hat2s (by simp only [World.size_alloc]))⟩
theorem bx3 {w W0 : World} {o0 o1 o2 : Obj} (h : (((w.alloc o0).alloc o1).alloc o2) = W0) : Hid (Below w.heap.size w W0) ∧ W0.heap[w.heap.size]? = some o0 ∧ W0.heap[w.heap.size + 1]? = some o1 ∧ W0.heap[w.heap.size + 1 + 1]? = some o2 := by subst h; exact ⟨Below.alloc' (Below.alloc' (Below.alloc' (Below.refl _ _) _) _) _, (hbl2 (by simp only [World.size_alloc]; omega) (hbl2 (by simp only [World.size_alloc]; omega) hat2)), (hbl2 (by simp only [World.size_alloc]; omega) (hat2s (by simp only [World.size_alloc]))), (hat2s (by simp only [World.size_alloc]))⟩
theorem bx4 {w W0 : World} {o0 o1 o2 o3 : Obj} (h : ((((w.alloc o0).alloc o1).alloc o2).alloc o3) = W0) : Hid (Below w.heap.size w W0) ∧ W0.heap[w.heap.size]? = some o0 ∧ W0.heap[w.heap.size + 1]? = some o1 ∧ W0.heap[w.heap.size + 1 + 1]? = some o2 ∧ W0.heap[w.heap.size + 1 + 1 + 1]? = some o3 := by subst h; exact ⟨Below.alloc' (Below.alloc' (Below.alloc' (Below.alloc' (Below.refl _ _) _) _) _) _, (hbl2 (by simp only [World.size_alloc]; omega) (hbl2 (by simp only [World.size_alloc]; omega) (hbl2 (by simp only [World.size_alloc]; omega) hat2))), (hbl2 (by simp only [World.size_alloc]; omega) (hbl2 (by simp only [World.size_alloc]; omega) (hat2s (by simp only [World.size_alloc])))), (hbl2 (by simp only [World.size_alloc]; omega) (hat2s (by simp only [World.size_alloc]))), (hat2s (by simp only [World.size_alloc]))⟩
theorem bx5 {w W0 : World} {o0 o1 o2 o3 o4 : Obj} (h : (((((w.alloc o0).alloc o1).alloc o2).alloc o3).alloc o4) = W0) : Hid (Below w.heap.size w W0) ∧ W0.heap[w.heap.size]? = some o0 ∧ W0.heap[w.heap.size + 1]? = some o1 ∧ W0.heap[w.heap.size + 1 + 1]? = some o2 ∧ W0.heap[w.heap.size + 1 + 1 + 1]? = some o3 ∧ W0.heap[w.heap.size + 1 + 1 + 1 + 1]? = some o4 := by subst h; exact ⟨Below.alloc' (Below.alloc' (Below.alloc' (Below.alloc' (Below.alloc' (Below.refl _ _) _) _) _) _) _, (hbl2 (by simp only [World.size_alloc]; omega) (hbl2 (by simp only [World.size_alloc]; omega) (hbl2 (by simp only [World.size_alloc]; omega) (hbl2 (by simp only [World.size_alloc]; omega) hat2)))), (hbl2 (by simp only [World.size_alloc]; omega) (hbl2 (by simp only [World.size_alloc]; omega) (hbl2 (by simp only [World.size_alloc]; omega) (hat2s (by simp only [World.size_alloc]))))), (hbl2 (by simp only [World.size_alloc]; omega) (hbl2 (by simp only [World.size_alloc]; omega) (hat2s (by simp only [World.size_alloc])))), (hbl2 (by simp only [World.size_alloc]; omega) (hat2s (by simp only [World.size_alloc]))), (hat2s (by simp only [World.size_alloc]))⟩
theorem bx6 {w W0 : World} {o0 o1 o2 o3 o4 o5 : Obj} (h : ((((((w.alloc o0).alloc o1).alloc o2).alloc o3).alloc o4).alloc o5) = W0) : Hid (Below w.heap.size w W0) ∧ W0.heap[w.heap.size]? = some o0 ∧ W0.heap[w.heap.size + 1]? = some o1 ∧ W0.heap[w.heap.size + 1 + 1]? = some o2 ∧ W0.heap[w.heap.size + 1 + 1 + 1]? = some o3 ∧ W0.heap[w.heap.size + 1 + 1 + 1 + 1]? = some o4 ∧ W0.heap[w.heap.size + 1 + 1 + 1 + 1 + 1]? = some o5 := by subst h; exact ⟨Below.alloc' (Below.alloc' (Below.alloc' (Below.alloc' (Below.alloc' (Below.alloc' (Below.refl _ _) _) _) _) _) _) _, (hbl2 (by simp only [World.size_alloc]; omega) (hbl2 (by simp only [World.size_alloc]; omega) (hbl2 (by simp only [World.size_alloc]; omega) (hbl2 (by simp only [World.size_alloc]; omega) (hbl2 (by simp only [World.size_alloc]; omega) hat2))))), (hbl2 (by simp only [World.size_alloc]; omega) (hbl2 (by simp only [World.size_alloc]; omega) (hbl2 (by simp only [World.size_alloc]; omega) (hbl2 (by simp only [World.size_alloc]; omega) (hat2s (by simp only [World.size_alloc])))))), (hbl2 (by simp only [World.size_alloc]; omega) (hbl2 (by simp only [World.size_alloc]; omega) (hbl2 (by simp only [World.size_alloc]; omega) (hat2s (by simp only [World.size_alloc]))))), (hbl2 (by simp only [World.size_alloc]; omega) (hbl2 (by simp only [World.size_alloc]; omega) (hat2s (by simp only [World.size_alloc])))), (hbl2 (by simp only [World.size_alloc]; omega) (hat2s (by simp only [World.size_alloc]))), (hat2s (by simp only [World.size_alloc]))⟩
theorem bx7 {w W0 : World} {o0 o1 o2 o3 o4 o5 o6 : Obj} (h : (((((((w.alloc o0).alloc o1).alloc o2).alloc o3).alloc o4).alloc o5).alloc o6) = W0) : Hid (Below w.heap.size w W0) ∧ W0.heap[w.heap.size]? = some o0 ∧ W0.heap[w.heap.size + 1]? = some o1 ∧ W0.heap[w.heap.size + 1 + 1]? = some o2 ∧ W0.heap[w.heap.size + 1 + 1 + 1]? = some o3 ∧ W0.heap[w.heap.size + 1 + 1 + 1 + 1]? = some o4 ∧ W0.heap[w.heap.size + 1 + 1 + 1 + 1 + 1]? = some o5 ∧ W0.heap[w.heap.size + 1 + 1 + 1 + 1 + 1 + 1]? = some o6 := by subst h; exact ⟨Below.alloc' (Below.alloc' (Below.alloc' (Below.alloc' (Below.alloc' (Below.alloc' (Below.alloc' (Below.refl _ _) _) _) _) _) _) _) _, (hbl2 (by simp only [World.size_alloc]; omega) (hbl2 (by simp only [World.size_alloc]; omega) (hbl2 (by simp only [World.size_alloc]; omega) (hbl2 (by simp only [World.size_alloc]; omega) (hbl2 (by simp only [World.size_alloc]; omega) (hbl2 (by simp only [World.size_alloc]; omega) hat2)))))), (hbl2 (by simp only [World.size_alloc]; omega) (hbl2 (by simp only [World.size_alloc]; omega) (hbl2 (by simp only [World.size_alloc]; omega) (hbl2 (by simp only [World.size_alloc]; omega) (hbl2 (by simp only [World.size_alloc]; omega) (hat2s (by simp only [World.size_alloc]))))))), (hbl2 (by simp only [World.size_alloc]; omega) (hbl2 (by simp only [World.size_alloc]; omega) (hbl2 (by simp only [World.size_alloc]; omega) (hbl2 (by simp only [World.size_alloc]; omega) (hat2s (by simp only [World.size_alloc])))))), (hbl2 (by simp only [World.size_alloc]; omega) (hbl2 (by simp only [World.size_alloc]; omega) (hbl2 (by simp only [World.size_alloc]; omega) (hat2s (by simp only [World.size_alloc]))))), (hbl2 (by simp only [World.size_alloc]; omega) (hbl2 (by simp only [World.size_alloc]; omega) (hat2s (by simp only [World.size_alloc])))), (hbl2 (by simp only [World.size_alloc]; omega) (hat2s (by simp only [World.size_alloc]))), (hat2s (by simp only [World.size_alloc]))⟩
theorem rw4 {W : World} {b o : Nat} {L : List Value} {a0 a1 a2 a3 : Value} (h : ∀ j, j < 4 → W.cell? ⟨b, o + j, none⟩ = L[j]?) (e : L = [a0, a1, a2, a3]) : W.cell? ⟨b, o, none⟩ = some a0 ∧ W.cell? ⟨b, o + 1, none⟩ = some a1 ∧ W.cell? ⟨b, o + 2, none⟩ = some a2 ∧ W.cell? ⟨b, o + 3, none⟩ = some a3 := by subst e; exact ⟨h 0 (by omega), h 1 (by omega), h 2 (by omega), h 3 (by omega)⟩
theorem rz4 {W : World} {b o : Nat} {L : List Value} {a0 a1 a2 a3 : Value} (h : ∀ z, Below W.heap.size W z → ∀ j, j < 4 → z.cell? ⟨b, o + j, none⟩ = L[j]?) (e : L = [a0, a1, a2, a3]) : (∀ z : Bl W, z.val.cell? ⟨b, o, none⟩ = some a0) ∧ (∀ z : Bl W, z.val.cell? ⟨b, o + 1, none⟩ = some a1) ∧ (∀ z : Bl W, z.val.cell? ⟨b, o + 2, none⟩ = some a2) ∧ (∀ z : Bl W, z.val.cell? ⟨b, o + 3, none⟩ = some a3) := by subst e; exact ⟨fun z => h z.val z.prop 0 (by omega), fun z => h z.val z.prop 1 (by omega), fun z => h z.val z.prop 2 (by omega), fun z => h z.val z.prop 3 (by omega)⟩
theorem rw5 {W : World} {b o : Nat} {L : List Value} {a0 a1 a2 a3 a4 : Value} (h : ∀ j, j < 5 → W.cell? ⟨b, o + j, none⟩ = L[j]?) (e : L = [a0, a1, a2, a3, a4]) : W.cell? ⟨b, o, none⟩ = some a0 ∧ W.cell? ⟨b, o + 1, none⟩ = some a1 ∧ W.cell? ⟨b, o + 2, none⟩ = some a2 ∧ W.cell? ⟨b, o + 3, none⟩ = some a3 ∧ W.cell? ⟨b, o + 4, none⟩ = some a4 := by subst e; exact ⟨h 0 (by omega), h 1 (by omega), h 2 (by omega), h 3 (by omega), h 4 (by omega)⟩
theorem rz5 {W : World} {b o : Nat} {L : List Value} {a0 a1 a2 a3 a4 : Value} (h : ∀ z, Below W.heap.size W z → ∀ j, j < 5 → z.cell? ⟨b, o + j, none⟩ = L[j]?) (e : L = [a0, a1, a2, a3, a4]) : (∀ z : Bl W, z.val.cell? ⟨b, o, none⟩ = some a0) ∧ (∀ z : Bl W, z.val.cell? ⟨b, o + 1, none⟩ = some a1) ∧ (∀ z : Bl W, z.val.cell? ⟨b, o + 2, none⟩ = some a2) ∧ (∀ z : Bl W, z.val.cell? ⟨b, o + 3, none⟩ = some a3) ∧ (∀ z : Bl W, z.val.cell? ⟨b, o + 4, none⟩ = some a4) := by subst e; exact ⟨fun z => h z.val z.prop 0 (by omega), fun z => h z.val z.prop 1 (by omega), fun z => h z.val z.prop 2 (by omega), fun z => h z.val z.prop 3 (by omega), fun z => h z.val z.prop 4 (by omega)⟩
theorem rw7 {W : World} {b o : Nat} {L : List Value} {a0 a1 a2 a3 a4 a5 a6 : Value} (h : ∀ j, j < 7 → W.cell? ⟨b, o + j, none⟩ = L[j]?) (e : L = [a0, a1, a2, a3, a4, a5, a6]) : W.cell? ⟨b, o, none⟩ = some a0 ∧ W.cell? ⟨b, o + 1, none⟩ = some a1 ∧ W.cell? ⟨b, o + 2, none⟩ = some a2 ∧ W.cell? ⟨b, o + 3, none⟩ = some a3 ∧ W.cell? ⟨b, o + 4, none⟩ = some a4 ∧ W.cell? ⟨b, o + 5, none⟩ = some a5 ∧ W.cell? ⟨b, o + 6, none⟩ = some a6 := by subst e; exact ⟨h 0 (by omega), h 1 (by omega), h 2 (by omega), h 3 (by omega), h 4 (by omega), h 5 (by omega), h 6 (by omega)⟩
theorem rz7 {W : World} {b o : Nat} {L : List Value} {a0 a1 a2 a3 a4 a5 a6 : Value} (h : ∀ z, Below W.heap.size W z → ∀ j, j < 7 → z.cell? ⟨b, o + j, none⟩ = L[j]?) (e : L = [a0, a1, a2, a3, a4, a5, a6]) : (∀ z : Bl W, z.val.cell? ⟨b, o, none⟩ = some a0) ∧ (∀ z : Bl W, z.val.cell? ⟨b, o + 1, none⟩ = some a1) ∧ (∀ z : Bl W, z.val.cell? ⟨b, o + 2, none⟩ = some a2) ∧ (∀ z : Bl W, z.val.cell? ⟨b, o + 3, none⟩ = some a3) ∧ (∀ z : Bl W, z.val.cell? ⟨b, o + 4, none⟩ = some a4) ∧ (∀ z : Bl W, z.val.cell? ⟨b, o + 5, none⟩ = some a5) ∧ (∀ z : Bl W, z.val.cell? ⟨b, o + 6, none⟩ = some a6) := by subst e; exact ⟨fun z => h z.val z.prop 0 (by omega), fun z => h z.val z.prop 1 (by omega), fun z => h z.val z.prop 2 (by omega), fun z => h z.val z.prop 3 (by omega), fun z => h z.val z.prop 4 (by omega), fun z => h z.val z.prop 5 (by omega), fun z => h z.val z.prop 6 (by omega)⟩
theorem rw16 {W : World} {b o : Nat} {L : List Value} {a0 a1 a2 a3 a4 a5 a6 a7 a8 a9 a10 a11 a12 a13 a14 a15 : Value} (h : ∀ j, j < 16 → W.cell? ⟨b, o + j, none⟩ = L[j]?) (e : L = [a0, a1, a2, a3, a4, a5, a6, a7, a8, a9, a10, a11, a12, a13, a14, a15]) : W.cell? ⟨b, o, none⟩ = some a0 ∧ W.cell? ⟨b, o + 1, none⟩ = some a1 ∧ W.cell? ⟨b, o + 2, none⟩ = some a2 ∧ W.cell? ⟨b, o + 3, none⟩ = some a3 ∧ W.cell? ⟨b, o + 4, none⟩ = some a4 ∧ W.cell? ⟨b, o + 5, none⟩ = some a5 ∧ W.cell? ⟨b, o + 6, none⟩ = some a6 ∧ W.cell? ⟨b, o + 7, none⟩ = some a7 ∧ W.cell? ⟨b, o + 8, none⟩ = some a8 ∧ W.cell? ⟨b, o + 9, none⟩ = some a9 ∧ W.cell? ⟨b, o + 10, none⟩ = some a10 ∧ W.cell? ⟨b, o + 11, none⟩ = some a11 ∧ W.cell? ⟨b, o + 12, none⟩ = some a12 ∧ W.cell? ⟨b, o + 13, none⟩ = some a13 ∧ W.cell? ⟨b, o + 14, none⟩ = some a14 ∧ W.cell? ⟨b, o + 15, none⟩ = some a15 := by subst e; exact ⟨h 0 (by omega), h 1 (by omega), h 2 (by omega), h 3 (by omega), h 4 (by omega), h 5 (by omega), h 6 (by omega), h 7 (by omega), h 8 (by omega), h 9 (by omega), h 10 (by omega), h 11 (by omega), h 12 (by omega), h 13 (by omega), h 14 (by omega), h 15 (by omega)⟩
theorem rz16 {W : World} {b o : Nat} {L : List Value} {a0 a1 a2 a3 a4 a5 a6 a7 a8 a9 a10 a11 a12 a13 a14 a15 : Value} (h : ∀ z, Below W.heap.size W z → ∀ j, j < 16 → z.cell? ⟨b, o + j, none⟩ = L[j]?) (e : L = [a0, a1, a2, a3, a4, a5, a6, a7, a8, a9, a10, a11, a12, a13, a14, a15]) : (∀ z : Bl W, z.val.cell? ⟨b, o, none⟩ = some a0) ∧ (∀ z : Bl W, z.val.cell? ⟨b, o + 1, none⟩ = some a1) ∧ (∀ z : Bl W, z.val.cell? ⟨b, o + 2, none⟩ = some a2) ∧ (∀ z : Bl W, z.val.cell? ⟨b, o + 3, none⟩ = some a3) ∧ (∀ z : Bl W, z.val.cell? ⟨b, o + 4, none⟩ = some a4) ∧ (∀ z : Bl W, z.val.cell? ⟨b, o + 5, none⟩ = some a5) ∧ (∀ z : Bl W, z.val.cell? ⟨b, o + 6, none⟩ = some a6) ∧ (∀ z : Bl W, z.val.cell? ⟨b, o + 7, none⟩ = some a7) ∧ (∀ z : Bl W, z.val.cell? ⟨b, o + 8, none⟩ = some a8) ∧ (∀ z : Bl W, z.val.cell? ⟨b, o + 9, none⟩ = some a9) ∧ (∀ z : Bl W, z.val.cell? ⟨b, o + 10, none⟩ = some a10) ∧ (∀ z : Bl W, z.val.cell? ⟨b, o + 11, none⟩ = some a11) ∧ (∀ z : Bl W, z.val.cell? ⟨b, o + 12, none⟩ = some a12) ∧ (∀ z : Bl W, z.val.cell? ⟨b, o + 13, none⟩ = some a13) ∧ (∀ z : Bl W, z.val.cell? ⟨b, o + 14, none⟩ = some a14) ∧ (∀ z : Bl W, z.val.cell? ⟨b, o + 15, none⟩ = some a15) := by subst e; exact ⟨fun z => h z.val z.prop 0 (by omega), fun z => h z.val z.prop 1 (by omega), fun z => h z.val z.prop 2 (by omega), fun z => h z.val z.prop 3 (by omega), fun z => h z.val z.prop 4 (by omega), fun z => h z.val z.prop 5 (by omega), fun z => h z.val z.prop 6 (by omega), fun z => h z.val z.prop 7 (by omega), fun z => h z.val z.prop 8 (by omega), fun z => h z.val z.prop 9 (by omega), fun z => h z.val z.prop 10 (by omega), fun z => h z.val z.prop 11 (by omega), fun z => h z.val z.prop 12 (by omega), fun z => h z.val z.prop 13 (by omega), fun z => h z.val z.prop 14 (by omega), fun z => h z.val z.prop 15 (by omega)⟩
end Go.Proofs.YtahhdjeclbagnaaGreatDoor
