/-
  CsG; CsH
-/
import Derived.Test.YtahhdjeclbagnaaGreatDoorQ11
import Derived.Test.YtahhdjeclbagnaaGreatDoorQ14
namespace Go.Proofs.YtahhdjeclbagnaaGreatDoor
open Go.RowKit
set_option maxRecDepth 100000 in
set_option maxHeartbeats 2000000 in
theorem cmpB_any (a b : KBef) (w : World) : Calls Tryz.prog 31 #[.agg #[.int .i64 a.ref, .int .i64 a.next], .agg #[.int .i64 b.ref, .int .i64 b.next]] w (RetB (.int .i64 (cmpB a b)) w) := by
 obtain ⟨ar, an⟩ := a
 obtain ⟨br, bn⟩ := b
 simp only [cmpB]
 have HO := Lib.hid (fun z : World => or2_any z.heap.size (cmpI ar br) (cmpI an bn) (z.alloc (.cells #[.int .i64 (cmpI ar br), .int .i64 (cmpI an bn)] 3)) ((cell_of_row _ _ 0 _ _ _ (heap_alloc_new z _)).trans rfl) ((cell_of_row _ _ 1 _ _ _ (heap_alloc_new z _)).trans rfl))
 have HC1 := Lib.hid (fun W : World => compare_any ar br W)
 have HC2 := Lib.hid (fun W : World => compare_any an bn W)
 generalize hx : cmpI ar br = x at HO HC1 ⊢
 generalize hy : cmpI an bn = y at HO HC2 ⊢
 generalize hE : cond (x == 0) y x = E at HO ⊢
 clear hx hy hE
 go_enter Tryz.func31, Tryz.ntmps31
 go_upto_region 1 with (fail)
 generalize hW0 : World.alloc _ _ = W0
 obtain ⟨HB, hh0, hh1⟩ := bx2 hW0; clear hW0
 obtain ⟨k0_0, k0_1⟩ := kc2 hh0
 clear hh0
 obtain ⟨k1_0, k1_1⟩ := kc2 hh1
 clear hh1
 change Code.wp _ _ _ _ (Bl.val (⟨W0, Below.refl _ _⟩ : Bl W0))
 generalize (⟨W0, Below.refl _ _⟩ : Bl W0) = s0
 refine wp_region_preB 10 (by simp) (by kernel_rfl) (by kernel_rfl) ?_
 simp only [List.take_succ_cons, List.take_zero, List.drop_succ_cons, List.drop_zero]
 repeat (go_big_quiet_step (first | (go_at_call_of 44 (Value.int IntKind.i64 ar); exact Calls.bl_of (HC1.out _)) | (go_at_call_of 44 (Value.int IntKind.i64 an); exact Calls.bl_of (HC2.out _))))
 refine wpQuiet_nil ?_
 rintro _ ⟨s1, rfl⟩
 gi_wp2_with (fail)
 refine ⟨trivial, rfl, (callsIn_wide.2 (HO.out _)).mono ?_⟩
 rintro e z ⟨rfl, hz⟩
 gi_wp2
 go_wp2
 go_ret
 exact ⟨rfl, Below.step HB.out (Below.step s1.prop (Below.step (Below.alloc' (Below.refl _ _) _) hz))⟩
theorem lt_of_cell {w : World} {b i : Nat} {u : Value} (h : w.cell? ⟨b, i, none⟩ = some u) : b < w.heap.size := World.block_lt_of_cell? w ⟨b, i, none⟩ h
theorem ofRef1_any (re ac lo hi fi : Int) (se : Bool) (p : Nat) (r : Int) (w : World) (hp : w.cell? ⟨p, 0, none⟩ = some (.int .i64 r)) : Calls Tryz.prog 49 #[.agg #[.int .i64 re, .int .i64 ac, .int .i64 lo, .int .i64 hi, .int .i64 fi, .bool se], .pointer (some ⟨p, 0, none⟩)] w (RetB (.int .i64 (cmpI re r)) w) := by
 have hpl : p < w.heap.size := lt_of_cell hp
 have HC := Lib.hid (fun W : World => compare_any re r W)
 generalize cmpI re r = y at HC ⊢
 go_enter Tryz.func49, Tryz.ntmps49
 go_upto_region 1 with (fail)
 generalize hW0 : World.alloc _ _ = W0
 obtain ⟨HB, hh0⟩ := bx1 hW0; clear hW0
 obtain ⟨k0_0, k0_1, k0_2, k0_3, k0_4, k0_5⟩ := kc6 hh0
 clear hh0
 change Code.wp _ _ _ _ (Bl.val (⟨W0, Below.refl _ _⟩ : Bl W0))
 generalize (⟨W0, Below.refl _ _⟩ : Bl W0) = s0
 have k2 : ∀ z : Bl W0, z.val.cell? ⟨p, 0, none⟩ = some (.int .i64 r) := fun z => ((Below.step HB.out z.prop).cell (p := ⟨p, 0, none⟩) hpl).trans hp
 go_wp2_with (go_at_call 44; refine (HC.out _).mono ?_; rintro e z ⟨rfl, hz⟩; obtain ⟨z, rfl⟩ := Bl.on hz; clear hz; refine Hid.out ?_)
 refine Lib.hid ?_
 go_wp2
 go_ret
 exact ⟨rfl, Below.step HB.out (Bl.prop _)⟩
theorem place1_any (re ac lo hi fi : Int) (se : Bool) (q p : Nat) (t r : Int) (w : World) (hq : w.cell? ⟨q, 0, none⟩ = some (.func (.func 49) #[] #[.pointer (some ⟨p, 0, none⟩)])) (hp : w.cell? ⟨p, 0, none⟩ = some (.int .i64 r)) : Calls Tryz.prog 74 #[.agg #[.int .i64 re, .int .i64 ac, .int .i64 lo, .int .i64 hi, .int .i64 fi, .bool se], .int .i64 t, .pointer (some ⟨q, 0, none⟩)] w (RetB (.int .i64 (cmpI re r)) w) := by
 have hpl : p < w.heap.size := lt_of_cell hp
 have hql : q < w.heap.size := lt_of_cell hq
 have HC0 : Hid (∀ z : World, Below w.heap.size w z → Calls Tryz.prog 49 #[.agg #[.int .i64 re, .int .i64 ac, .int .i64 lo, .int .i64 hi, .int .i64 fi, .bool se], .pointer (some ⟨p, 0, none⟩)] z (RetB (.int .i64 (cmpI re r)) z)) := fun z hz => ofRef1_any re ac lo hi fi se p r z ((hz.cell (p := ⟨p, 0, none⟩) hpl).trans hp)
 generalize cmpI re r = y at HC0 ⊢
 go_enter Tryz.func74, Tryz.ntmps74
 go_upto_region 1 with (fail)
 generalize hW0 : World.alloc _ _ = W0
 obtain ⟨HB, hh0⟩ := bx1 hW0; clear hW0
 obtain ⟨k0_0, k0_1, k0_2, k0_3, k0_4, k0_5⟩ := kc6 hh0
 clear hh0
 change Code.wp _ _ _ _ (Bl.val (⟨W0, Below.refl _ _⟩ : Bl W0))
 generalize (⟨W0, Below.refl _ _⟩ : Bl W0) = s0
 have k2 : ∀ z : Bl W0, z.val.cell? ⟨q, 0, none⟩ = some (.func (.func 49) #[] #[.pointer (some ⟨p, 0, none⟩)]) := fun z => ((Below.step HB.out z.prop).cell (p := ⟨q, 0, none⟩) hql).trans hq
 have HC := Lib.hid (fun z : Bl W0 => HC0.out z.val (Below.step HB.out z.prop))
 go_wp2_with (go_at_call 49; refine (HC.out _).mono ?_; rintro e z ⟨rfl, hz⟩; obtain ⟨z, rfl⟩ := Bl.on hz; clear hz; refine Hid.out ?_)
 refine Lib.hid ?_
 go_wp2
 go_ret
 exact ⟨rfl, Below.step HB.out (Bl.prop _)⟩
def hasRef (F : List KFact) (r : Int) : Bool := F.any (fun x => x.ref == r)
theorem hasRef_at {F : List KFact} {r : Int} {i : Nat} (hd : Distinct F) (h1 : ∀ (k : Nat) (x : KFact), k < i → F[k]? = some x → x.ref < r) (h2 : ∀ (k : Nat) (x : KFact), i ≤ k → F[k]? = some x → r ≤ x.ref) : hasRef F r = (match F[i]? with | some x => x.ref == r | none => false) := by
 unfold hasRef
 cases e : F[i]? with
 | none =>
  simp only
  rw [List.any_eq_false]
  intro x hx
  obtain ⟨k, hk⟩ := List.getElem?_of_mem hx
  have : k < i := by
   have a1 := List.getElem?_eq_none_iff.1 e
   have a2 := (List.getElem?_eq_some_iff.1 hk).1
   omega
  have := h1 k x this hk
  simp only [beq_iff_eq]
  omega
 | some y =>
  simp only
  cases q : (y.ref == r) with
  | true => rw [List.any_eq_true]; exact ⟨y, List.mem_of_getElem? e, q⟩
  | false =>
   rw [beq_eq_false_iff_ne] at q
   rw [List.any_eq_false]
   intro x hx
   obtain ⟨k, hk⟩ := List.getElem?_of_mem hx
   simp only [beq_iff_eq]
   intro hr
   rcases Nat.lt_trichotomy k i with c | c | c
   · have := h1 k x c hk; omega
   · subst c; rw [e] at hk; cases hk; exact q hr
   · have a1 := h2 i y (Nat.le_refl _) e
     obtain ⟨b1, b2⟩ := List.getElem?_eq_some_iff.1 e
     obtain ⟨b3, b4⟩ := List.getElem?_eq_some_iff.1 hk
     have a2 := (List.pairwise_iff_getElem.1 hd) i k (by rw [List.length_map]; exact b1) (by rw [List.length_map]; exact b3) c
     rw [List.getElem_map, List.getElem_map, b2, b4] at a2
     omega
theorem rzz6 {W : World} {b o : Nat} {L : List Value} {a0 a1 a2 a3 a4 a5 : Value} (h : ∀ z, Below W.heap.size W z → ∀ j, j < 6 → z.cell? ⟨b, o + j, none⟩ = L[j]?) (e : L = [a0, a1, a2, a3, a4, a5]) : (∀ z : Bl W, z.val.cell? ⟨b, o, none⟩ = some a0) ∧ (∀ z : Bl W, z.val.cell? ⟨b, o + 1, none⟩ = some a1) ∧ (∀ z : Bl W, z.val.cell? ⟨b, o + 2, none⟩ = some a2) ∧ (∀ z : Bl W, z.val.cell? ⟨b, o + 3, none⟩ = some a3) ∧ (∀ z : Bl W, z.val.cell? ⟨b, o + 4, none⟩ = some a4) ∧ (∀ z : Bl W, z.val.cell? ⟨b, o + 5, none⟩ = some a5) := by
 subst e
 exact ⟨fun z => h z.val z.prop 0 (by omega), fun z => h z.val z.prop 1 (by omega), fun z => h z.val z.prop 2 (by omega), fun z => h z.val z.prop 3 (by omega), fun z => h z.val z.prop 4 (by omega), fun z => h z.val z.prop 5 (by omega)⟩
def FoundPost (b : Bool) (w : World) (e : Ending) (w' : World) : Prop := ∃ n : Int, e = .returned (.tuple #[.int .i64 n, .bool b]) ∧ Below w.heap.size w w'
set_option maxRecDepth 100000 in
set_option maxHeartbeats 4000000 in
theorem bsearch_any (F : List KFact) (A : Option Addr) (c : Nat) (q p : Nat) (r : Int) (w : World) (hA : At w 6 A F.length c (factCells F)) (hn : F.length ≤ 1000000) (hd : Distinct F) (hq : w.cell? ⟨q, 0, none⟩ = some (.func (.func 49) #[] #[.pointer (some ⟨p, 0, none⟩)])) (hp : w.cell? ⟨p, 0, none⟩ = some (.int .i64 r)) :
 Calls Tryz.prog 73 #[.slice A F.length c, .int .i64 0, .func (.func 74) #[] #[.pointer (some ⟨q, 0, none⟩)]] w (FoundPost (hasRef F r) w) := by
 have hpl : p < w.heap.size := lt_of_cell hp
 have hql : q < w.heap.size := lt_of_cell hq
 have HC := Lib.hid (fun (x : KFact) (z : Bl w) => place1_any x.ref x.act x.low x.high x.filed x.secret q p 0 r z.val ((z.prop.cell (p := ⟨q, 0, none⟩) hql).trans hq) ((z.prop.cell (p := ⟨p, 0, none⟩) hpl).trans hp))
 have HA := Lib.hid hA; clear hA
 have HD := Lib.hid hd; clear hd
 clear hp hq
 generalize hE : hasRef F r = E
 have HE := Lib.hid hE; clear hE
 go_enter Tryz.func73, Tryz.ntmps73
 go_wp2
 go_loopg [9, 10] F.length (fun gk v9 v10 wr => ∃ (i j : Nat) (z : Bl w), gk = j - i ∧ i ≤ j ∧ j ≤ F.length ∧ v9 = .int .i64 i ∧ v10 = .int .i64 j ∧ wr = z.val ∧ Hid (∀ (k : Nat) (x : KFact), k < i → F[k]? = some x → x.ref < r) ∧ Hid (∀ (k : Nat) (x : KFact), j ≤ k → F[k]? = some x → r ≤ x.ref))
 case atStart => exact ⟨0, F.length, ⟨w, Below.refl _ _⟩, rfl, by omega, Nat.le_refl _, rfl, rfl, rfl, fun k x h => by omega, fun k x h hk => by have := (List.getElem?_eq_some_iff.1 hk).1; omega⟩
 case round =>
  obtain ⟨i, j, z, hgk, hij, hjn, rfl, rfl, rfl, hlo, hhi⟩ := hrel
  have HGK := Lib.hid hgk; clear hgk
  by_cases hlt : i < j
  · have j1 : (i : Int) < (j : Int) := by omega
    obtain ⟨h, hh⟩ : ∃ h : Nat, h = (i + j) / 2 := ⟨_, rfl⟩
    have hhj : h < j := by omega
    have hih : i ≤ h := by omega
    obtain ⟨b, off, hA0, hbl, hcell⟩ := HA.out.fact (by omega)
    subst hA0
    obtain ⟨x, hx⟩ : ∃ x, F[h]? = some x := ⟨F[h]'(by omega), List.getElem?_eq_getElem _⟩
    obtain ⟨e0, e1, e2, e3, e4, e5⟩ := rzz6 (fun z hz => hcell h x hx z hz) rfl
    clear hcell
    have hv : ((i : Int) + (j : Int)) / 2 = (h : Int) := by omega
    clear hh
    have HX := Lib.hid hx; clear hx
    have hh1 : (h : Int) < (F.length : Int) := by omega
    have HQ := Lib.hid (cmpI_lt x.ref r)
    have HC1 := Lib.hid (HC.out x)
    generalize cmpI x.ref r = y at HC1 HQ
    cases q : decide (y < 0) with
    | true =>
     rw [decide_eq_true_eq] at q
     have hlt2 : x.ref < r := HQ.out.1 q
     have HLT := Lib.hid hlt2; clear hlt2
     have q2 : decide (y < 0) = true := by simpa using q
     go_wp2_with (go_at_call 74; refine (HC1.out _).mono ?_; rintro e z1 ⟨rfl, hz⟩; obtain ⟨z1, rfl⟩ := Bl.on hz; clear hz; refine Hid.out ?_)
     refine Lib.hid ?_
     go_wp2
     go_roundg (j - (h + 1))
     case measure => have := HGK.out; omega
     case rel => exact ⟨h + 1, j, z1, rfl, by omega, hjn, by go_num, rfl, rfl, fun k u hk hu => by
      obtain ⟨b1, b2⟩ := List.getElem?_eq_some_iff.1 hu
      obtain ⟨b3, b4⟩ := List.getElem?_eq_some_iff.1 HX.out
      have h9 := HLT.out
      by_cases e : k = h
      · subst e; rw [HX.out] at hu; cases hu; exact h9
      · have a2 := (List.pairwise_iff_getElem.1 HD.out) k h (by rw [List.length_map]; exact b1) (by rw [List.length_map]; exact b3) (by omega)
        rw [List.getElem_map, List.getElem_map, b2, b4] at a2
        omega, hhi.out⟩
    | false =>
     rw [decide_eq_false_iff_not] at q
     have hge : r ≤ x.ref := by have := HQ.out.2; omega
     have HGE := Lib.hid hge; clear hge
     have q2 : decide (y < 0) = false := by simpa using q
     go_wp2_with (go_at_call 74; refine (HC1.out _).mono ?_; rintro e z1 ⟨rfl, hz⟩; obtain ⟨z1, rfl⟩ := Bl.on hz; clear hz; refine Hid.out ?_)
     refine Lib.hid ?_
     go_wp2
     go_roundg (h - i)
     case measure => have := HGK.out; omega
     case rel => exact ⟨i, h, z1, rfl, hih, by omega, rfl, by go_num, rfl, hlo.out, fun k u hk hu => by
      obtain ⟨b1, b2⟩ := List.getElem?_eq_some_iff.1 hu
      obtain ⟨b3, b4⟩ := List.getElem?_eq_some_iff.1 HX.out
      have h9 := HGE.out
      by_cases e : k = h
      · subst e; rw [HX.out] at hu; cases hu; exact h9
      · have a2 := (List.pairwise_iff_getElem.1 HD.out) h k (by rw [List.length_map]; exact b3) (by rw [List.length_map]; exact b1) (by omega)
        rw [List.getElem_map, List.getElem_map, b2, b4] at a2
        omega⟩
  · obtain rfl : i = j := by omega
    have hr := hasRef_at HD.out hlo.out hhi.out
    have HR := Lib.hid hr; clear hr
    by_cases hn2 : i < F.length
    · have j1 : (i : Int) < (F.length : Int) := by omega
      obtain ⟨b, off, hA0, hbl, hcell⟩ := HA.out.fact (by omega)
      subst hA0
      obtain ⟨x, hx⟩ : ∃ x, F[i]? = some x := ⟨F[i], List.getElem?_eq_getElem hn2⟩
      obtain ⟨e0, e1, e2, e3, e4, e5⟩ := rzz6 (fun z hz => hcell i x hx z hz) rfl
      clear hcell
      have HQ : Hid (E = (cmpI x.ref r == 0)) := by show _ = _; rw [← HE.out, HR.out, hx, cmpI_eq]
      clear hx
      have HC1 := Lib.hid (HC.out x)
      generalize cmpI x.ref r = y at HC1 HQ
      clear HR HE
      cases q : (y == 0) with
      | true =>
       obtain rfl : E = true := by rw [HQ.out, q]
       clear HQ
       go_wp2_with (go_at_call 74; refine (HC1.out _).mono ?_; rintro e z1 ⟨rfl, hz⟩; obtain ⟨z1, rfl⟩ := Bl.on hz; clear hz; refine Hid.out ?_)
       refine Lib.hid ?_
       go_wp2
       go_ret2
       exact ⟨_, rfl, Bl.prop _⟩
      | false =>
       obtain rfl : E = false := by rw [HQ.out, q]
       clear HQ
       go_wp2_with (go_at_call 74; refine (HC1.out _).mono ?_; rintro e z1 ⟨rfl, hz⟩; obtain ⟨z1, rfl⟩ := Bl.on hz; clear hz; refine Hid.out ?_)
       refine Lib.hid ?_
       go_wp2
       go_ret2
       exact ⟨_, rfl, Bl.prop _⟩
    · obtain rfl : E = false := by rw [← HE.out, HR.out, List.getElem?_eq_none (by omega)]
      have j1 : decide ((i : Int) < (F.length : Int)) = false := by rw [decide_eq_false_iff_not]; omega
      clear HR HE
      go_wp2
      go_ret2
      exact ⟨_, rfl, Bl.prop _⟩
end Go.Proofs.YtahhdjeclbagnaaGreatDoor
namespace Go.Proofs.YtahhdjeclbagnaaGreatDoor
open Go.RowKit
theorem place_any (F : List KFact) (A : Option Addr) (c : Nat) (p : Nat) (r : Int) (w : World) (hA : At w 6 A F.length c (factCells F)) (hn : F.length ≤ 1000000) (hd : Distinct F) (hp : w.cell? ⟨p, 0, none⟩ = some (.int .i64 r)) :
 Calls Tryz.prog 48 #[.slice A F.length c, .func (.func 49) #[] #[.pointer (some ⟨p, 0, none⟩)]] w (FoundPost (hasRef F r) w) := by
 have hpl : p < w.heap.size := lt_of_cell hp
 have HA := Lib.hid hA; clear hA
 have HD := Lib.hid hd; clear hd
 have HP := Lib.hid hp; clear hp
 go_enter Tryz.func48, Tryz.ntmps48
 go_upto_region 1 with (fail)
 generalize hW0 : World.alloc _ _ = W0
 obtain ⟨HB, hh0⟩ := bx1 hW0; clear hW0
 have k0 := kcell (i := 0) hh0 rfl
 clear hh0
 change Code.wp _ _ _ _ (Bl.val (⟨W0, Below.refl _ _⟩ : Bl W0))
 generalize (⟨W0, Below.refl _ _⟩ : Bl W0) = s0
 have HBS := Lib.hid (fun z : Bl W0 => bsearch_any F A c w.heap.size p r z.val (HA.out.below (by omega) (Below.step HB.out z.prop)) hn HD.out (k0 z) (((Below.step HB.out z.prop).cell (p := ⟨p, 0, none⟩) hpl).trans HP.out))
 go_wp2_with (go_at_call 73; refine (HBS.out _).mono ?_; rintro e z ⟨n, rfl, hz⟩; obtain ⟨z, rfl⟩ := Bl.on hz; clear hz; refine Hid.out ?_)
 refine Lib.hid ?_
 go_wp2
 go_ret2
 exact ⟨_, rfl, Below.step HB.out (Bl.prop _)⟩
theorem ofRef_any (F : List KFact) (A : Option Addr) (c : Nat) (r : Int) (w : World) (hA : At w 6 A F.length c (factCells F)) (hn : F.length ≤ 1000000) (hd : Distinct F) :
 Calls Tryz.prog 30 #[.slice A F.length c, .int .i64 r] w (FoundPost (hasRef F r) w) := by
 have HA := Lib.hid hA; clear hA
 have HD := Lib.hid hd; clear hd
 go_enter Tryz.func30, Tryz.ntmps30
 go_upto_region 1 with (fail)
 generalize hW0 : World.alloc _ _ = W0
 obtain ⟨HB, hh0⟩ := bx1 hW0; clear hW0
 have k0 := kcell (i := 0) hh0 rfl
 clear hh0
 change Code.wp _ _ _ _ (Bl.val (⟨W0, Below.refl _ _⟩ : Bl W0))
 generalize (⟨W0, Below.refl _ _⟩ : Bl W0) = s0
 have HBS := Lib.hid (fun z : Bl W0 => place_any F A c w.heap.size r z.val (HA.out.below (by omega) (Below.step HB.out z.prop)) hn HD.out (k0 z))
 go_wp2_with (go_at_call 48; refine (HBS.out _).mono ?_; rintro e z ⟨n, rfl, hz⟩; obtain ⟨z, rfl⟩ := Bl.on hz; clear hz; refine Hid.out ?_)
 refine Lib.hid ?_
 go_wp2
 go_ret2
 exact ⟨_, rfl, Below.step HB.out (Bl.prop _)⟩
end Go.Proofs.YtahhdjeclbagnaaGreatDoor
