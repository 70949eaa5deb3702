/-
  CsD; CsF
-/
import Derived.Test.YtahhdjeclbagnaaGreatDoorQ02
import Derived.Test.YtahhdjeclbagnaaGreatDoorQ10
namespace Go.Proofs.YtahhdjeclbagnaaGreatDoor
open Go.RowKit
def KFact.cells (x : KFact) : List Value := [.int .i64 x.ref, .int .i64 x.act, .int .i64 x.low, .int .i64 x.high, .int .i64 x.filed, .bool x.secret]
def KBef.cells (b : KBef) : List Value := [.int .i64 b.ref, .int .i64 b.next]
def factCells (l : List KFact) : List Value := l.flatMap KFact.cells
def befCells (l : List KBef) : List Value := l.flatMap KBef.cells
structure FV where
 f : SV
 o : SV
def FV.cells (v : FV) (f : KFile) : List Value := [.int .i64 f.house, .slice v.f.A f.facts.length v.f.c, .slice v.o.A f.orders.length v.o.c]
def FV.val (v : FV) (f : KFile) : Value := .agg (v.cells f).toArray
structure FileAt (w : World) (v : FV) (f : KFile) : Prop where
 facts : At w 6 v.f.A f.facts.length v.f.c (factCells f.facts)
 orders : At w 2 v.o.A f.orders.length v.o.c (befCells f.orders)
theorem FileAt.below {w w' : World} {v : FV} {f : KFile} (h : FileAt w v f) (hb : Below w.heap.size w w') : FileAt w' v f :=
 ⟨h.facts.below (by omega) hb, h.orders.below (by omega) hb⟩
theorem FileAt.lenF {w : World} {v : FV} {f : KFile} (h : FileAt w v f) : f.facts.length ≤ v.f.c ∧ v.f.c ≤ 9223372036854775807 := by
 have h1 := h.facts.2.2.1; have h2 := h.facts.2.2.2; unfold maxLen at h2; omega
theorem FileAt.lenO {w : World} {v : FV} {f : KFile} (h : FileAt w v f) : f.orders.length ≤ v.o.c ∧ v.o.c ≤ 9223372036854775807 := by
 have h1 := h.orders.2.2.1; have h2 := h.orders.2.2.2; unfold maxLen at h2; omega
def FilesAt (w : World) (v : SV) (l : List KFile) : Prop :=
 ∃ ts : List FV, ts.length = l.length ∧ At w 3 v.A l.length v.c ((l.zip ts).flatMap (fun p => FV.cells p.2 p.1)) ∧ ∀ (i : Nat) (f : KFile) (t : FV), l[i]? = some f → ts[i]? = some t → FileAt w t f
theorem FilesAt.below {w w' : World} {v : SV} {l : List KFile} (h : FilesAt w v l) (hb : Below w.heap.size w w') : FilesAt w' v l := by
 obtain ⟨ts, h1, h2, h3⟩ := h
 exact ⟨ts, h1, h2.below (by omega) hb, fun i s t hs ht => (h3 i s t hs ht).below hb⟩
theorem FilesAt.form {w : World} {v : SV} {l : List KFile} (h : FilesAt w v l) (hl : 0 < l.length) :
 ∃ b off, v.A = some ⟨b, off, none⟩ ∧ b < w.heap.size ∧ ∀ (i : Nat) (f : KFile), l[i]? = some f → ∃ t : FV, FileAt w t f ∧ ∀ W, Below w.heap.size w W → ∀ j, j < 3 → W.cell? ⟨b, off + i * 3 + j, none⟩ = (t.cells f)[j]? := by
 obtain ⟨ts, h1, h2, h3⟩ := h
 obtain ⟨b, off, hA, hb, hc⟩ := h2.1.form hl (by omega)
 refine ⟨b, off, hA, hb, fun i s hs => ?_⟩
 have hi : i < l.length := (List.getElem?_eq_some_iff.1 hs).1
 have ht : ts[i]? = some (ts[i]'(by omega)) := List.getElem?_eq_getElem _
 refine ⟨ts[i]'(by omega), h3 i s _ hs ht, fun W hW j hj => ?_⟩
 rw [hW.cell (p := ⟨b, off + i * 3 + j, none⟩) hb, Nat.add_assoc, hc _ (by omega)]
 have hz : (l.zip ts)[i]? = some (s, ts[i]'(by omega)) := by rw [List.getElem?_zip_eq_some]; exact ⟨hs, ht⟩
 exact get_flat (fun p : KFile × FV => FV.cells p.2 p.1) 3 (fun _ => rfl) (l.zip ts) i j _ hz hj
theorem FilesAt.len {w : World} {v : SV} {l : List KFile} (h : FilesAt w v l) : l.length ≤ v.c ∧ v.c ≤ 9223372036854775807 := by
 obtain ⟨ts, h1, h2, h3⟩ := h
 have h4 := h2.2.2.1
 have h5 := h2.2.2.2
 unfold maxLen at h5
 omega
theorem At.fact {w : World} {A : Option Addr} {c : Nat} {l : List KFact} (h : At w 6 A l.length c (factCells l)) (hl : 0 < l.length) :
 ∃ b off, A = some ⟨b, off, none⟩ ∧ b < w.heap.size ∧ ∀ (i : Nat) (x : KFact), l[i]? = some x → ∀ W, Below w.heap.size w W → ∀ j, j < 6 → W.cell? ⟨b, off + i * 6 + j, none⟩ = x.cells[j]? := by
 obtain ⟨b, off, hA, hb, hc⟩ := h.1.form hl (by omega)
 refine ⟨b, off, hA, hb, fun i x hx W hW j hj => ?_⟩
 have hi : i < l.length := (List.getElem?_eq_some_iff.1 hx).1
 rw [hW.cell (p := ⟨b, off + i * 6 + j, none⟩) hb, Nat.add_assoc, hc _ (by omega)]
 exact get_flat KFact.cells 6 (fun _ => rfl) l i j x hx hj
theorem At.bef {w : World} {A : Option Addr} {c : Nat} {l : List KBef} (h : At w 2 A l.length c (befCells l)) (hl : 0 < l.length) :
 ∃ b off, A = some ⟨b, off, none⟩ ∧ b < w.heap.size ∧ ∀ (i : Nat) (x : KBef), l[i]? = some x → ∀ W, Below w.heap.size w W → ∀ j, j < 2 → W.cell? ⟨b, off + i * 2 + j, none⟩ = x.cells[j]? := by
 obtain ⟨b, off, hA, hb, hc⟩ := h.1.form hl (by omega)
 refine ⟨b, off, hA, hb, fun i x hx W hW j hj => ?_⟩
 have hi : i < l.length := (List.getElem?_eq_some_iff.1 hx).1
 rw [hW.cell (p := ⟨b, off + i * 2 + j, none⟩) hb, Nat.add_assoc, hc _ (by omega)]
 exact get_flat KBef.cells 2 (fun _ => rfl) l i j x hx hj
end Go.Proofs.YtahhdjeclbagnaaGreatDoor
namespace Go.Proofs.YtahhdjeclbagnaaGreatDoor
open Go.RowKit
theorem isNaN_any (x : Int) (w : World) : Calls Tryz.prog 63 #[.int .i64 x] w (RetB (.bool false) w) := by
 have h : (x != x) = false := by simp
 go_enter Tryz.func63, Tryz.ntmps63
 go_wp2
 go_ret
 exact ⟨by first | rfl | simp, Below.refl _ _⟩
def cmpI (x y : Int) : Int := cond (decide (x < y)) (-1) (cond (decide (y < x)) 1 0)
set_option maxHeartbeats 1000000 in
theorem compare_any (x y : Int) (w : World) : Calls Tryz.prog 44 #[.int .i64 x, .int .i64 y] w (RetB (.int .i64 (cmpI x y)) w) := by
 generalize hE : cmpI x y = E
 simp only [cmpI] at hE
 repeat' (first | (replace hE := cd_t hE (by assumption)) | (replace hE := cd_f hE (by assumption)) | (replace hE := cd_eq hE; rcases hE with ⟨q, q', hE⟩ | ⟨q, q', hE⟩) | (replace hE := cd_any hE; rcases hE with ⟨q, hE⟩ | ⟨q, hE⟩) | fail)
 all_goals
  subst hE
  go_enter Tryz.func44, Tryz.ntmps44
  go_wp2_with (go_at_call 63; refine (isNaN_any _ _).mono ?_; rintro e z ⟨rfl, hz⟩; obtain ⟨z, rfl⟩ : ∃ z' : Bl w, z = z'.val := ⟨⟨z, hz⟩, rfl⟩; clear hz; refine Hid.out ?_)
  refine Lib.hid ?_
  go_wp2_with (go_at_call 63; refine (isNaN_any _ _).mono ?_; rintro e z ⟨rfl, hz⟩; obtain ⟨z, rfl⟩ := Bl.on hz; clear hz; refine Hid.out ?_)
  refine Lib.hid ?_
  go_wp2
  go_ret
  exact ⟨rfl, Bl.prop _⟩
set_option maxRecDepth 100000 in
set_option maxHeartbeats 1000000 in
theorem or2_any (g : Nat) (x y : Int) (w : World) (h0 : w.cell? ⟨g, 0, none⟩ = some (.int .i64 x)) (h1 : w.cell? ⟨g, 1, none⟩ = some (.int .i64 y)) : Calls Tryz.prog 43 #[.slice (some ⟨g, 0, none⟩) 2 2] w (RetB (.int .i64 (cond (x == 0) y x)) w) := by
 generalize hE : cond (x == 0) y x = E
 cases q : (x == 0) with
 | false =>
  have q' : (x != 0) = true := by simp [bne, q]
  rw [q, cond_false] at hE
  subst hE
  go_enter Tryz.func43, Tryz.ntmps43
  go_wp2
  go_loopg [8] 0 (fun gk v8 wr => v8 = .int .i64 0 ∧ w = wr)
  case atStart => exact ⟨rfl, rfl⟩
  case round =>
   obtain ⟨rfl, rfl⟩ := hrel
   go_wp2
   go_ret
   exact ⟨rfl, Below.refl _ _⟩
 | true =>
  have q' : (x != 0) = false := by simp [bne, q]
  rw [q, cond_true] at hE
  subst hE
  go_enter Tryz.func43, Tryz.ntmps43
  go_wp2
  go_loopg [8] 2 (fun gk v8 wr => ∃ j : Nat, gk = 2 - j ∧ j ≤ 2 ∧ v8 = .int .i64 j ∧ w = wr ∧ (j = 2 → y = 0))
  case atStart => exact ⟨0, rfl, by omega, rfl, rfl, fun h => by omega⟩
  case round =>
   obtain ⟨j, hgk, hj, rfl, rfl, hy⟩ := hrel
   have HGK := Lib.hid hgk; clear hgk
   rcases (by omega : j = 0 ∨ j = 1 ∨ j = 2) with rfl | rfl | rfl
   · clear hy
     go_wp2
     go_roundg 1
     case measure => have := HGK.out; omega
     case rel => exact ⟨1, by omega, by omega, by go_num, rfl, fun h => by omega⟩
   · clear hy
     cases p : (y == 0) with
     | false =>
      have p' : (y != 0) = true := by simp [bne, p]
      go_wp2
      go_ret
      exact ⟨rfl, Below.refl _ _⟩
     | true =>
      have p' : (y != 0) = false := by simp [bne, p]
      have hy0 : y = 0 := by simpa using p
      have HY := Lib.hid hy0; clear hy0
      go_wp2
      go_roundg 0
      case measure => have := HGK.out; omega
      case rel => exact ⟨2, by omega, by omega, by go_num, rfl, fun _ => HY.out⟩
   · have hy0 := hy rfl
     clear hy
     subst hy0
     go_wp2
     go_ret
     exact ⟨rfl, Below.refl _ _⟩
def cmpB (a b : KBef) : Int := cond (cmpI a.ref b.ref == 0) (cmpI a.next b.next) (cmpI a.ref b.ref)
theorem cmpI_lt (x y : Int) : cmpI x y < 0 ↔ x < y := by
 unfold cmpI
 by_cases h : x < y
 · simp [h]
 · by_cases h2 : y < x <;> simp [h, h2]
theorem cmpI_eq (x y : Int) : (cmpI x y == 0) = (x == y) := by
 unfold cmpI
 by_cases h : x < y
 · have : x ≠ y := by omega
   simp [h, this]
 · by_cases h2 : y < x
   · have : x ≠ y := by omega
     simp [h, h2, this]
   · have : x = y := by omega
     simp [this]
theorem cmpB_lt (a b : KBef) : cmpB a b < 0 ↔ ltB a b := by
 unfold cmpB ltB
 rw [cmpI_eq]
 cases q : (a.ref == b.ref) with
 | true => rw [beq_iff_eq] at q; rw [cond_true, cmpI_lt]; omega
 | false => rw [beq_eq_false_iff_ne] at q; rw [cond_false, cmpI_lt]; omega
instance (a b : KBef) : Decidable (ltB a b) := by unfold ltB; exact inferInstance
theorem cmpB_ge (a b : KBef) : (decide (0 ≤ cmpB a b)) = !decide (ltB a b) := by
 rw [Bool.eq_iff_iff]
 simp only [decide_eq_true_eq, Bool.not_eq_true', decide_eq_false_iff_not]
 rw [← cmpB_lt]
 omega
def okFactB (C : KCon) (re ac lo hi fi : Int) : Bool := decide (1 ≤ re) && (decide (re ≤ 1000000) && (decide (0 ≤ ac) && (decide (ac < (C.acts.length : Int)) && (decide (0 ≤ lo) && (decide (lo ≤ hi) && (decide (hi < C.days) && (decide (0 ≤ fi) && decide (fi ≤ C.days))))))))
set_option maxRecDepth 100000 in
set_option maxHeartbeats 4000000 in
theorem validFact_any (v : CV) (C : KCon) (re ac lo hi fi : Int) (se : Bool) (w : World) : Calls Tryz.prog 29 #[v.val C, .agg #[.int .i64 re, .int .i64 ac, .int .i64 lo, .int .i64 hi, .int .i64 fi, .bool se]] w (RetB (.bool (okFactB C re ac lo hi fi)) w) := by
 obtain ⟨⟨vhA, vhc⟩, ⟨vuA, vuc⟩, ⟨vaA, vac⟩, ⟨vkA, vkc⟩, ⟨voA, voc⟩⟩ := v
 simp only [CV.val, CV.cells]
 rw [cd_self (okFactB C re ac lo hi fi)]
 generalize hE : cond (okFactB C re ac lo hi fi) true false = E
 simp only [okFactB, cds] at hE
 go_enter Tryz.func29, Tryz.ntmps29
 go_upto_region 1 with (fail)
 generalize hW0 : World.alloc _ _ = W0
 obtain ⟨HB, hh0, hh1⟩ := bx2 hW0; clear hW0
 obtain ⟨k0_0, k0_1, k0_2, k0_3, k0_4, k0_5, k0_6⟩ := kc7 hh0
 clear hh0
 obtain ⟨k1_0, k1_1, k1_2, k1_3, k1_4, k1_5⟩ := kc6 hh1
 clear hh1
 change Code.wp _ _ _ _ (Bl.val (⟨W0, Below.refl _ _⟩ : Bl W0))
 generalize (⟨W0, Below.refl _ _⟩ : Bl W0) = s0
 repeat' (first | (replace hE := cd_t hE (by assumption)) | (replace hE := cd_f hE (by assumption)) | (replace hE := cd_eq hE; rcases hE with ⟨q, q', hE⟩ | ⟨q, q', hE⟩) | (replace hE := cd_any hE; rcases hE with ⟨q, hE⟩ | ⟨q, hE⟩) | fail)
 all_goals
  subst hE
  go_wp2_with (first | fail)
  first
   | (go_ret; exact ⟨rfl, Below.step HB.out (Bl.prop _)⟩)
   | (refine wp_region_bl (by kernel_rfl) (by kernel_rfl) ?_; (repeat (go_big_quiet_step (first | fail))); refine wpQuiet_nil ?_; rintro _ ⟨zq, rfl⟩; go_wp2_with (first | fail); go_ret; exact ⟨rfl, Below.step HB.out (Bl.prop _)⟩)
end Go.Proofs.YtahhdjeclbagnaaGreatDoor
