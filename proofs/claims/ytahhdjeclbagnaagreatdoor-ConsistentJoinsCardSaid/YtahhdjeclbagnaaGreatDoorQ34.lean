/-
  CtE
-/
import Derived.Test.YtahhdjeclbagnaaGreatDoorQ33
import Derived.Test.YtahhdjeclbagnaaGreatDoorQ20
namespace Go.Proofs.YtahhdjeclbagnaaGreatDoor
open Go.RowKit Go.Shelf
def zeroSpec (W0 : World) (e : TypeId) (n : Nat) (cs : Array Value) : MSpec :=
 ⟨fun v => ∃ b, W0.heap.size ≤ b ∧ v = .slice (some ⟨b, 0, none⟩) n n, fun v z => ∀ b, v = .slice (some ⟨b, 0, none⟩) n n → z.heap[b]? = some (.cells cs e (0, 0))⟩
theorem zeroSpec_keeps (W0 : World) (e : TypeId) (n : Nat) (cs : Array Value) : (zeroSpec W0 e n cs).Keeps := fun v z z' h hb b hv => by
 have h1 := h b hv
 rw [hb.block b (lt_of_heap h1)]
 exact h1
def PrN (n : Nat) (_ _ : Nat) (u v : Value) : Prop := ∀ b b', u = .slice (some ⟨b, 0, none⟩) n n → v = .slice (some ⟨b', 0, none⟩) n n → b ≠ b'
theorem makes_zero {P : Program} {W0 : World} {o : Oper} {ρ : Operand → Value} {mk : Nat → Option MSpec} {ds : List Nat} {j : Nat} (t : TypeId) (l c : Operand) (hop : o.op = Op.makeSlice t l c) (e : TypeId) (i : TypeInfo) (z : Value) (size : Nat) (ht : P.underlying t = some (.slice e)) (hi : P.info? e = some i) (hz : i.zero = some z) (hsz : i.size = size)
 (n : Nat) (hl : ρ l = .int .i64 (n : Int)) (hc : ρ c = .int .i64 (n : Int)) (hb : i.bytes * n ≤ 281474976710656) (h63 : n ≤ 9223372036854775807) (w : World) (hw : W0.heap.size ≤ w.heap.size) (hp : j ∈ ds → ∀ p ∈ ds, p ≠ j → ∀ sp, mk p = some sp → ∀ u, sp.S u w → ∀ b, u = .slice (some ⟨b, 0, none⟩) n n → b < w.heap.size) :
 makesUpon P w (withG (zeroSpec W0 e n (madeCells z.cells (n * size))) (PairD mk ds (PrN n) j w)) ((execOp ρ o).run P w) := by
 subst hsz
 have hb' : (i.bytes : Int) * (n : Int) ≤ 281474976710656 := by
  have h : ((i.bytes * n : Nat) : Int) ≤ 281474976710656 := by omega
  rwa [Int.natCast_mul] at h
 have hr := run_make (P := P) w t e i z ht hi hz .i64 .i64 n n (by omega) (Int.le_refl _) hb' (by omega)
 simp only [Int.toNat_natCast] at hr
 simp only [execOp, hop, hl, hc, Sem.run_bind, hr, Result.andThen_ok, Sem.run_pure]
 refine ⟨⟨⟨w.heap.size, hw, rfl⟩, fun hj p hpd hne sp hsp u hu => ?_⟩, fun b hv => ?_, Below.alloc' (Below.refl _ _) _⟩
 · have h1 := hp hj p hpd hne sp hsp u hu
   refine ⟨fun b b' e1 e2 => ?_, fun b b' e1 e2 => ?_⟩
   · have := h1 b e1
     simp only [Value.slice.injEq, Option.some.injEq, Addr.mk.injEq, and_true] at e2
     omega
   · have := h1 b' e2
     simp only [Value.slice.injEq, Option.some.injEq, Addr.mk.injEq, and_true] at e1
     omega
 · simp only [Value.slice.injEq, Option.some.injEq, Addr.mk.injEq, and_true] at hv
   subst hv
   exact heap_alloc_new w _
theorem made_bnds (n : Nat) : (madeCells (Value.cells (.agg #[.int .i64 0, .int .i64 0])) (n * 2)).toList = bndC (fun _ => 0) (fun _ => 0) n := by
 rw [made_pairs]
 unfold bndC bndRow pairCells
 apply List.ext_getElem?
 intro j
 rcases Nat.lt_or_ge j (n * 2) with hj | hj
 · have h1 := pairCells_get (P := List.replicate n (0, 0)) (i := j / 2) (j := j % 2) (p := (0, 0)) (by rw [List.getElem?_replicate, if_pos (by omega)]) (by omega)
   have h2 := bndC_get (fun _ => 0) (fun _ => 0) (n := n) (i := j / 2) (j := j % 2) (by omega) (by omega)
   rw [show j / 2 * 2 + j % 2 = j by omega] at h1 h2
   exact h1.trans h2.symm
 · have h1 := pairCells_len (List.replicate n (0, 0))
   have h2 := bndC_len (fun _ => 0) (fun _ => 0) n
   rw [List.length_replicate] at h1
   rw [List.getElem?_eq_none (by show (pairCells (List.replicate n (0, 0))).length ≤ j; rw [h1]; exact hj), List.getElem?_eq_none (by show (bndC (fun _ => 0) (fun _ => 0) n).length ≤ j; rw [h2]; exact hj)]
def befTo (P : List (Nat × Nat)) (n k : Nat) : List (List Int) := (List.range n).map (fun i => ((P.take k).filter (fun p => p.2 == i)).map (fun p => (p.1 : Int)))
def aftTo (P : List (Nat × Nat)) (n k : Nat) : List (List Int) := (List.range n).map (fun i => ((P.take k).filter (fun p => p.1 == i)).map (fun p => (p.2 : Int)))
theorem befTo_zero (P : List (Nat × Nat)) (n : Nat) : befTo P n 0 = List.replicate n [] := by
 apply List.ext_getElem?
 intro i
 by_cases h : i < n <;> simp [befTo, h]
theorem aftTo_zero (P : List (Nat × Nat)) (n : Nat) : aftTo P n 0 = List.replicate n [] := by
 apply List.ext_getElem?
 intro i
 by_cases h : i < n <;> simp [aftTo, h]
theorem befTo_get {P : List (Nat × Nat)} {n k i : Nat} (h : i < n) : (befTo P n k)[i]? = some (((P.take k).filter (fun p => p.2 == i)).map (fun p => (p.1 : Int))) := by
 unfold befTo
 rw [List.getElem?_map, List.getElem?_range h]
 rfl
theorem aftTo_get {P : List (Nat × Nat)} {n k i : Nat} (h : i < n) : (aftTo P n k)[i]? = some (((P.take k).filter (fun p => p.1 == i)).map (fun p => (p.2 : Int))) := by
 unfold aftTo
 rw [List.getElem?_map, List.getElem?_range h]
 rfl
theorem map_set_range {α : Type} {f g : Nat → α} {n j : Nat} (h : ∀ i, i ≠ j → g i = f i) : (List.range n).map g = ((List.range n).map f).set j (g j) := by
 apply List.ext_getElem?
 intro i
 rw [List.getElem?_set]
 simp only [List.getElem?_map, List.length_map, List.length_range]
 by_cases e : j = i
 · subst e
   rw [if_pos rfl]
   by_cases hj : j < n
   · rw [if_pos hj, List.getElem?_range hj]; rfl
   · rw [if_neg hj, List.getElem?_eq_none (by simp; omega)]; rfl
 · rw [if_neg e]
   by_cases hi : i < n
   · rw [List.getElem?_range hi]
     simp only [Option.map_some]
     rw [h i (fun e2 => e e2.symm)]
   · rw [List.getElem?_eq_none (by simp; omega)]; rfl
theorem befTo_put {P : List (Nat × Nat)} {n k : Nat} {p : Nat × Nat} (hp : P[k]? = some p) : befTo P n (k + 1) = (befTo P n k).set p.2 (((P.take k).filter (fun q => q.2 == p.2)).map (fun q => (q.1 : Int)) ++ [(p.1 : Int)]) := by
 unfold befTo
 rw [take_snocX hp, map_set_range (f := fun i => ((P.take k).filter (fun q => q.2 == i)).map (fun q => (q.1 : Int))) (j := p.2) (fun i hi => ?_)]
 · simp [List.filter_append]
 · rw [List.filter_append, List.map_append]
   have : (p.2 == i) = false := by simp; exact fun e => hi e.symm
   simp [this]
theorem aftTo_put {P : List (Nat × Nat)} {n k : Nat} {p : Nat × Nat} (hp : P[k]? = some p) : aftTo P n (k + 1) = (aftTo P n k).set p.1 (((P.take k).filter (fun q => q.1 == p.1)).map (fun q => (q.2 : Int)) ++ [(p.2 : Int)]) := by
 unfold aftTo
 rw [take_snocX hp, map_set_range (f := fun i => ((P.take k).filter (fun q => q.1 == i)).map (fun q => (q.2 : Int))) (j := p.1) (fun i hi => ?_)]
 · simp [List.filter_append]
 · rw [List.filter_append, List.map_append]
   have : (p.1 == i) = false := by simp; exact fun e => hi e.symm
   simp [this]
def NewPost (F : List KFact) (O : List KBef) (u : Int) (w : World) (e : Ending) (w' : World) : Prop :=
 ∃ X : SX, e = .returned (.pointer (some ⟨X.sb, 0, none⟩)) ∧ X.B = w.heap.size ∧ (X.B ≤ X.rb ∧ X.B ≤ X.ab) ∧ X.n = F.length ∧ X.Lb = befTo (pairsOf F O) F.length O.length ∧ X.La = aftTo (pairsOf F O) F.length O.length ∧ SearchAt w' X (loU F u) (hiU F u) none 0 [] ∧ Below w.heap.size w w'
attribute [local go_sem] stillB stillC stillUpon makesUpon
set_option maxRecDepth 100000 in
set_option maxHeartbeats 4000000 in
theorem newSearch_any (fv : FV) (ho : Int) (F : List KFact) (O : List KBef) (u : Int) (w : World) (hF : FileAt w fv ⟨ho, F, O⟩) (hR : ∀ x ∈ F, In64 x.ref) (hD : Distinct F) (hF4 : F.length ≤ 4000) (hO4 : O.length ≤ 4000) (hK : Known F O) :
 Calls Tryz.prog 32 #[fv.val ⟨ho, F, O⟩, .int .i64 u] w (NewPost F O u w) := by
 obtain ⟨⟨fA, fc⟩, ⟨oA, oc⟩⟩ := fv
 have HF := Lib.hid hF; clear hF
 have HR := Lib.hid hR; clear hR
 have HD := Lib.hid hD; clear hD
 have HK := Lib.hid hK; clear hK
 simp only [FV.val, FV.cells]
 obtain ⟨n, HN⟩ : ∃ n, Hid (n = F.length) := ⟨_, rfl⟩
 rw [← HN.out]
 have hn4 : n ≤ 4000 := by rw [HN.out]; exact hF4
 go_enter Tryz.func32, Tryz.ntmps32
 go_upto_region 1 with (fail)
 generalize hW0 : World.alloc _ _ = W0
 obtain ⟨HB, hh0⟩ := bx1 hW0
 obtain ⟨k0_0, k0_1, k0_2⟩ := kc3 hh0
 have hs0 : w.heap.size < W0.heap.size := lt_of_heap hh0
 clear hh0 hW0
 change Code.wp _ _ _ _ (Bl.val (⟨W0, Below.refl _ _⟩ : Bl W0))
 generalize hz0 : (⟨W0, Below.refl _ _⟩ : Bl W0) = z0
 go_upto_region 2 with (fail)
 rw [← hz0]
 clear hz0 z0
 obtain ⟨i1, hi1, hz1, hsz1, hby1⟩ := info_parts' (P := Tryz.prog) (t := 112) (z := some (.agg #[.int .i64 0, .int .i64 0])) (s := 2) (b := 16) (by kernel_rfl)
 obtain ⟨i2, hi2, hz2, hsz2, hby2⟩ := info_parts' (P := Tryz.prog) (t := 22) (z := some (.slice none 0 0)) (s := 1) (b := 24) (by kernel_rfl)
 refine wp_region_pair (s := (⟨W0, Below.refl _ _⟩ : Bl W0)) 7 (fun i => match i with
  | 1 => some (zeroSpec W0 112 n (madeCells (Value.cells (.agg #[.int .i64 0, .int .i64 0])) (n * 2)))
  | 3 => some (zeroSpec W0 22 n (madeCells (Value.cells (.slice none 0 0)) (n * 1)))
  | 5 => some (zeroSpec W0 22 n (madeCells (Value.cells (.slice none 0 0)) (n * 1)))
  | _ => none) (fun _ => []) [3, 5] [] (PrN n) (by simp) (by kernel_rfl) (by kernel_rfl) (by simp) (by simp) (by kernel_rfl) ?bnd ?keeps (by simp) ?_
 case bnd =>
  intro p hp o t ho ht
  simp only [List.mem_cons, List.not_mem_nil, or_false] at hp
  rcases hp with rfl | rfl
  all_goals
   simp only [List.getElem?_toArray, List.getElem?_cons_succ, List.getElem?_cons_zero, Option.some.injEq] at ho
   subst ho
   simp only [Option.some.injEq] at ht
   subst ht
   simp
 case keeps =>
  intro i sp h
  split at h
  · injection h with h; subst h; exact zeroSpec_keeps _ _ _ _
  · injection h with h; subst h; exact zeroSpec_keeps _ _ _ _
  · injection h with h; subst h; exact zeroSpec_keeps _ _ _ _
  · cases h
 simp only [List.take_succ_cons, List.take_zero, List.drop_succ_cons, List.drop_zero]
 repeat (refine wpD_still rfl (fun K hK => ?_); go_simp; refine hK _ ?_; clear hK K)
 refine wpD_make _ rfl rfl ?_ (fun y _ => makes_zero 107 (.tmp 16) (.tmp 16) rfl 112 i1 (.agg #[.int .i64 0, .int .i64 0]) 2 Tryz.underlying107 hi1 hz1 hsz1 n rfl rfl (by rw [hby1]; omega) (by omega) y.val y.prop.size ?_) ?_
 · exact ⟨_, W0.heap.size, Nat.le_refl _, rfl⟩
 · intro h; simp at h
 rintro _ ⟨bb, hbb, rfl⟩
 repeat (refine wpD_still rfl (fun K hK => ?_); go_simp; refine hK _ ?_; clear hK K)
 refine wpD_make _ rfl rfl ?_ (fun y _ => makes_zero 42 (.tmp 18) (.tmp 18) rfl 22 i2 (.slice none 0 0) 1 Tryz.underlying42 hi2 hz2 hsz2 n rfl rfl (by rw [hby2]; omega) (by omega) y.val y.prop.size ?_) ?_
 · exact ⟨_, W0.heap.size, Nat.le_refl _, rfl⟩
 · intro _ p hp hne sp hsp u hu b hb
   simp only [List.mem_cons, List.not_mem_nil, or_false] at hp
   rcases hp with rfl | rfl
   · exact absurd rfl hne
   · injection hsp with hsp
     subst hsp
     exact lt_of_heap (hu b hb)
 rintro _ ⟨rb, hrb, rfl⟩
 repeat (refine wpD_still rfl (fun K hK => ?_); go_simp; refine hK _ ?_; clear hK K)
 refine wpD_make _ rfl rfl ?_ (fun y _ => makes_zero 42 (.tmp 20) (.tmp 20) rfl 22 i2 (.slice none 0 0) 1 Tryz.underlying42 hi2 hz2 hsz2 n rfl rfl (by rw [hby2]; omega) (by omega) y.val y.prop.size ?_) ?_
 · exact ⟨_, W0.heap.size, Nat.le_refl _, rfl⟩
 · intro _ p hp hne sp hsp u hu b hb
   simp only [List.mem_cons, List.not_mem_nil, or_false] at hp
   rcases hp with rfl | rfl
   · injection hsp with hsp
     subst hsp
     exact lt_of_heap (hu b hb)
   · exact absurd rfl hne
 rintro _ ⟨ab, hab, rfl⟩
 repeat (refine wpD_still rfl (fun K hK => ?_); go_simp; refine hK _ ?_; clear hK K)
 refine wpD_nil ?_
 rintro hpairs y ⟨⟨⟨_, hA⟩, hC⟩, hE⟩
 have hne : rb ≠ ab := hpairs 3 (by simp) 5 (by simp) (by omega) rfl rfl _ rfl _ rfl _ _ _ _ rfl rfl rfl rfl rb ab rfl rfl
 have g1 := hA bb rfl
 have g2 := hC rb rfl
 have g3 := hE ab rfl
 clear hA hC hE hpairs
 gi_wp2
 obtain ⟨sb, hsb⟩ : ∃ sb, sb = y.val.heap.size := ⟨_, rfl⟩
 rw [← hsb]
 generalize hW1 : World.alloc _ _ = W1
 have hb1 : Below y.val.heap.size y.val W1 := by rw [← hW1]; exact Below.alloc' (Below.refl _ _) _
 have hbW : Below W0.heap.size W0 W1 := Below.step y.prop hb1
 have hBX : Own W1 110 sb [.slice (some ⟨bb, 0, none⟩) n n, .slice (some ⟨rb, 0, none⟩) n n, .slice (some ⟨ab, 0, none⟩) n n, .slice none 0 0] := by
  rw [← hW1, hsb]
  exact Own.new _ _ _
 have hrows : ∀ b, y.val.heap[b]? = some (.cells (madeCells (Value.slice none 0 0).cells (n * 1)) 22 (0, 0)) → Own W1 22 b (List.replicate n (.slice none 0 0)) := fun b hb => by
  refine ⟨[], ?_⟩
  rw [List.append_nil, ← made_rows, Array.toArray_toList]
  exact (hb1.block b (lt_of_heap hb)).trans hb
 have hbnd : Own W1 112 bb (bndC (fun _ => 0) (fun _ => 0) n) := by
  refine ⟨[], ?_⟩
  rw [List.append_nil, ← made_bnds, Array.toArray_toList]
  exact (hb1.block bb (lt_of_heap g1)).trans g1
 have HS1 : Hid (SearchAt (Bl.val (⟨W1, hbW⟩ : Bl W0)) ⟨w.heap.size, sb, bb, rb, ab, n, List.replicate n (.slice none 0 0), List.replicate n (.slice none 0 0), List.replicate n [], List.replicate n []⟩ (fun i => if i < 0 then loU F u i else 0) (fun i => if i < 0 then hiU F u i else 0) none 0 []) := by
  refine ⟨RowsAt.made (hrows rb g2), RowsAt.made (hrows ab g3), by simp, by simp, hBX, ?_, World.ownsRow_nil _ _ _ _, ?_⟩
  · simpa using hbnd
  · have := y.prop.size
    constructor
    · show w.heap.size ≤ sb
      omega
    · show w.heap.size ≤ bb
      omega
 have hlow : w.heap.size < sb ∧ w.heap.size < bb ∧ w.heap.size < rb ∧ w.heap.size < ab ∧ W0.heap.size ≤ bb := by
  have := y.prop.size
  omega
 have HBZ : Hid (∀ z : Bl W0, Below w.heap.size w z.val) := fun z => Below.step HB.out z.prop
 change Code.wp _ _ _ _ (Bl.val (⟨W1, hbW⟩ : Bl W0))
 generalize (⟨W1, hbW⟩ : Bl W0) = s1 at HS1 ⊢
 clear hBX hrows hbnd hb1 hbW hW1 hsb g1 g2 g3 hbb hrb hab y
 go_wp2
 go_loopg [27] n (fun gk v27 wr => ∃ (k : Nat) (z : Bl W0), gk = n - k ∧ k ≤ n ∧ v27 = .int .i64 k ∧ wr = z.val ∧ Hid (SearchAt z.val ⟨w.heap.size, sb, bb, rb, ab, n, List.replicate n (.slice none 0 0), List.replicate n (.slice none 0 0), List.replicate n [], List.replicate n []⟩ (fun i => if i < k then loU F u i else 0) (fun i => if i < k then hiU F u i else 0) none 0 []))
 case atStart => exact ⟨0, s1, rfl, Nat.zero_le _, rfl, rfl, HS1⟩
 case round =>
  obtain ⟨k, z, hgk, hk, rfl, rfl, HS⟩ := hrel
  have HGK := Lib.hid hgk; clear hgk HS1
  by_cases hlt : k < n
  · have HNF := HN.out
    obtain ⟨fb, fo, hA0, hfb, hcell⟩ := HF.out.facts.fact (by show 0 < F.length; omega)
    simp only at hA0
    subst hA0
    obtain ⟨⟨re, ac, lo, hi, fi, se⟩, hx⟩ : ∃ x, F[k]? = some x := ⟨F[k]'(by omega), List.getElem?_eq_getElem (by omega)⟩
    obtain ⟨e0, e1, e2, e3, e4, e5⟩ := rzz6 (fun z hz => hcell k _ hx z (Below.step HB.out hz)) rfl
    have HX := Lib.hid hx; clear hx hcell HNF
    have j1 : (k : Int) < (n : Int) := by omega
    go_upto_region 6 with (fail)
    generalize hWa : World.alloc _ _ = Wa
    obtain ⟨hba, hxa⟩ := bx1' hWa
    clear hWa
    have hSa := HS.out.below hba
    have HBa : Hid (Below W0.heap.size W0 Wa) := Below.step z.prop hba
    obtain ⟨d0, d1, d2, d3, d4, d5⟩ := kc6 hxa
    have q2 := d2 ⟨Wa, Below.refl _ _⟩
    have q3 := d3 ⟨Wa, Below.refl _ _⟩
    simp only at q2 q3
    have s0 : Wa.cell? ⟨sb, 0, none⟩ = some (.slice (some ⟨bb, 0, none⟩) n n) := hSa.box.cell rfl
    have c0 := hSa.bnd.cell (bndC_get _ _ hlt (j := 0) (by omega))
    have c1 := hSa.bnd.cell (bndC_get _ _ hlt (j := 1) (by omega))
    rw [Nat.add_zero] at c0
    simp only [Nat.lt_irrefl, if_false] at c0 c1
    have f0 := hSa.bnd.frozen (k * 2)
    have f1 := hSa.bnd.frozen (k * 2 + 1)
    have HSA := Lib.hid hSa; clear hSa
    clear d0 d1 d2 d3 d4 d5 e0 e1 e2 e3 e4 e5 hxa hba
    refine wp_region_preN 14 (by simp) (by kernel_rfl) (by kernel_rfl) ?_
    simp only [List.take_succ_cons, List.take_zero, List.drop_succ_cons, List.drop_zero]
    repeat (go_big_quiet_step (fail))
    refine wpQuiet_nil ?_
    rintro _ ⟨mq, rfl⟩
    gi_wp2
    have HSB := HSA.out.setBnd mq (i := k) hlt (min lo u) (min hi u)
    have HSC := Lib.hid (HSB.1.congr (lo' := fun i => if i < k + 1 then loU F u i else 0) (hi' := fun i => if i < k + 1 then hiU F u i else 0) (fun i hi' => by
     by_cases e : i = k
     · subst e
       rw [setAt_same, setAt_same, if_pos (by omega), if_pos (by omega)]
       unfold loU hiU
       rw [getD_map HX.out, getD_map HX.out]
       exact ⟨rfl, rfl⟩
     · rw [setAt_other _ _ e, setAt_other _ _ e]
       by_cases h2 : i < k
       · rw [if_pos h2, if_pos h2, if_pos (by omega), if_pos (by omega)]
         exact ⟨rfl, rfl⟩
       · rw [if_neg h2, if_neg h2, if_neg (by omega), if_neg (by omega)]
         exact ⟨rfl, rfl⟩))
    have HBC : Hid (Below W0.heap.size W0 (((Wa.drewN mq).setCell ⟨bb, k * 2, none⟩ (.int .i64 (min lo u))).setCell ⟨bb, k * 2 + 1, none⟩ (.int .i64 (min hi u)))) := by
     have h := (Upd.of_below HBa.out).drewN mq
     have hbb0 : W0.heap.size ≤ bb := hlow.2.2.2.2
     exact Upd.below ((h.setCell (p := ⟨bb, k * 2, none⟩) (.inl hbb0) (.int .i64 (min lo u))).setCell (p := ⟨bb, k * 2 + 1, none⟩) (.inl hbb0) (.int .i64 (min hi u))) (Nat.le_refl _) (fun i hi => hi)
    clear HSB HSA HBa q2 q3 s0 c0 c1 f0 f1 HS
    generalize (((Wa.drewN mq).setCell ⟨bb, k * 2, none⟩ (.int .i64 (min lo u))).setCell ⟨bb, k * 2 + 1, none⟩ (.int .i64 (min hi u))) = Wc at HSC HBC ⊢
    go_wp2
    go_roundg (n - (k + 1))
    case measure => rw [HGK.out]; omega
    case rel => exact ⟨k + 1, ⟨Wc, HBC.out⟩, rfl, by omega, by go_num, rfl, HSC⟩
  · obtain rfl : n = k := by omega
    clear HGK hlt
    have HS0 := Lib.hid (HS.out.congr (lo' := loU F u) (hi' := hiU F u) (fun i hi' => by
     have h : i < n := hi'
     rw [if_pos h, if_pos h]
     exact ⟨rfl, rfl⟩))
    clear HS
    have HPL := Lib.hid (places_any ⟨⟨fA, fc⟩, ⟨oA, oc⟩⟩ ⟨ho, F, O⟩ z.val (HF.out.below (HBZ.out z)) HR.out HD.out hF4 hO4 HK.out)
    simp only [FV.val, FV.cells] at HPL
    rw [← HN.out] at HPL
    go_wp2_with (go_at_call 50; refine HPL.out.mono ?_; rintro e Z ⟨pA, pc, rfl, hP, hpn, hz⟩; refine Hid.out ?_)
    refine Lib.hid ?_
    have HIN := Lib.hid (pairs_in HD.out HK.out)
    have HPLEN : Hid ((pairsOf F O).length = O.length) := by show _ = _; unfold pairsOf; rw [List.length_map]
    have hP4 : (pairsOf F O).length ≤ 4000 := by rw [HPLEN.out]; exact hO4
    have HZB : Hid (Below w.heap.size w Z) := (HBZ.out z).trans (hz.mono (HBZ.out z).size)
    have hrz : rb < z.val.heap.size ∧ ab < z.val.heap.size := ⟨HS0.out.bef.own.lt, HS0.out.aft.own.lt⟩
    have HPN : Hid (∀ b off, pA = some ⟨b, off, none⟩ → ¬ (b = rb ∨ b = ab)) := fun b off e => by have := hpn b off e; omega
    have HSZ := HS0.out.below hz
    have HSZ2 : Hid (SearchAt Z ⟨w.heap.size, sb, bb, rb, ab, n, List.replicate n (.slice none 0 0), List.replicate n (.slice none 0 0), befTo (pairsOf F O) n 0, aftTo (pairsOf F O) n 0⟩ (loU F u) (hiU F u) none 0 []) := by
     show SearchAt _ _ _ _ _ _ _
     rw [befTo_zero, aftTo_zero]
     exact HSZ
    have HNE : Hid (rb ≠ ab) := hne
    have HPZ := Lib.hid hP
    rw [← HN.out] at HIN
    clear HSZ HS0 hP hpn hrz HPL hne
    generalize hPP : pairsOf F O = P at HPZ hP4 HIN HSZ2 HPLEN
    have HPP := Lib.hid hPP; clear hPP
    obtain ⟨ii, hii, hiz, his, hib⟩ := info_parts' (P := Tryz.prog) (t := 3) (z := some (.int .i64 0)) (s := 1) (b := 8) (by kernel_rfl)
    have hwZ := HZB.out.size
    have hsz := hz.size
    clear hz
    go_wp2
    go_loopg [51] P.length (fun gk v51 wr => ∃ (j : Nat) (vb va : List Value), gk = P.length - j ∧ j ≤ P.length ∧ v51 = .int .i64 j ∧ Hid (SearchAt wr ⟨w.heap.size, sb, bb, rb, ab, n, vb, va, befTo P n j, aftTo P n j⟩ (loU F u) (hiU F u) none 0 []) ∧ Hid (Upd (fun i => i = rb ∨ i = ab) Z wr) ∧ Hid (∀ v, v ∈ vb ∨ v ∈ va → ∀ b, v.ownBlock = some b → Z.heap.size ≤ b) ∧ Hid (∀ v ∈ vb, ∀ v' ∈ va, ∀ b, v.ownBlock = some b → v'.ownBlock ≠ some b))
    case atStart =>
     refine ⟨0, _, _, rfl, Nat.zero_le _, rfl, HSZ2, Upd.refl _ _, fun v hv b hb => ?_, fun v hv v' hv' b hb => ?_⟩
     · rcases hv with hv | hv
       · rw [List.eq_of_mem_replicate hv] at hb; cases hb
       · rw [List.eq_of_mem_replicate hv] at hb; cases hb
     · rw [List.eq_of_mem_replicate hv] at hb; cases hb
    case round =>
     obtain ⟨j, vb, va, hgk, hj, rfl, HSW, HU, HNW, HSP⟩ := hrel
     have HGJ := Lib.hid hgk; clear hgk HSZ2
     by_cases hlj : j < P.length
     · obtain ⟨⟨x, y⟩, hp⟩ : ∃ p, P[j]? = some p := ⟨P[j], List.getElem?_eq_getElem hlj⟩
       obtain ⟨hx, hy⟩ := HIN.out _ (List.mem_of_getElem? hp)
       simp only at hx hy
       have HPW := updAt HPZ.out (by omega) HU.out HPN.out
       obtain ⟨pb, po, hPA, hpb, hpc⟩ := HPW.1.form (by omega) (by omega)
       subst hPA
       have e0 : wr.cell? ⟨pb, po + j * 2, none⟩ = some (.int .i64 x) := by
        have h := hpc (j * 2) (by omega)
        rw [h]
        exact pairCells_get (j := 0) hp (by omega)
       have e1 : wr.cell? ⟨pb, po + j * 2 + 1, none⟩ = some (.int .i64 y) := by
        have h := hpc (j * 2 + 1) (by omega)
        rw [Nat.add_assoc, h]
        exact pairCells_get (j := 1) hp (by omega)
       have HPJ := Lib.hid hp; clear hp hpc HPW
       have j1 : (j : Int) < (P.length : Int) := by omega
       have x1' : (x : Int) < (n : Int) := by omega
       have y1' : (y : Int) < (n : Int) := by omega
       go_upto_region 11 with (fail)
       generalize hWa : World.alloc _ _ = Wa
       obtain ⟨hba, hxa⟩ := bx1' hWa
       have q0 : ∀ z : Bl Wa, z.val.cell? ⟨wr.heap.size, 0, none⟩ = some (.int .i64 x) := fun z => (z.prop.cell (p := ⟨wr.heap.size, 0, none⟩) (lt_of_heap hxa)).trans ((cell_of_row Wa _ 0 _ _ _ hxa).trans rfl)
       have q1 : ∀ z : Bl Wa, z.val.cell? ⟨wr.heap.size, 1, none⟩ = some (.int .i64 y) := fun z => (z.prop.cell (p := ⟨wr.heap.size, 1, none⟩) (lt_of_heap hxa)).trans ((cell_of_row Wa _ 1 _ _ _ hxa).trans rfl)
       have HSA := Lib.hid (HSW.out.below hba)
       have HUA := Lib.hid (updOn HU.out hba)
       clear hWa hba hxa e0 e1 HSW HU
       change Code.wp _ _ _ _ (Bl.val (⟨Wa, Below.refl _ _⟩ : Bl Wa))
       generalize (⟨Wa, Below.refl _ _⟩ : Bl Wa) = za
       refine wp_region_bl (by kernel_rfl) (by kernel_rfl) ?_
       repeat (go_big_quiet_step (fail))
       refine wpQuiet_nil ?_
       rintro _ ⟨zb, rfl⟩
       have HSR := Lib.hid (HSA.out.below zb.prop)
       have HUR := Lib.hid (updOn HUA.out zb.prop)
       clear q0 q1 HSA HUA
       go_upto_region 12 with (fail)
       generalize zb.val = Wr at HSR HUR ⊢
       obtain ⟨rA, rc, hvd, hrow⟩ := HSR.out.bef.get (Nat.zero_le y) (befTo_get hy)
       have HVD := Lib.hid hvd; clear hvd
       have HPT : Hid (befTo P n (j + 1) = (befTo P n j).set y (((P.take j).filter (fun q => q.2 == y)).map (fun q => (q.1 : Int)) ++ [(x : Int)])) := befTo_put HPJ.out
       have hlr : (((P.take j).filter (fun q => q.2 == y)).map (fun q => (q.1 : Int))).length ≤ 4000 := by
        rw [List.length_map]
        refine Nat.le_trans (List.length_filter_le _ _) ?_
        rw [List.length_take]
        omega
       generalize ((P.take j).filter (fun q => q.2 == y)).map (fun q => (q.1 : Int)) = l at hrow HVD HPT hlr
       have HROW := Lib.hid hrow; clear hrow
       have HSN : Hid (∀ (t : TypeId) (b : Nat) (cs : List Value), Own Wr t b cs → t ≠ 3 → ¬ (Value.slice rA l.length rc).ownBlock = some b) := fun t b cs ho ht hs => by
        obtain ⟨tl, ho⟩ := ho
        exact ownBlock_ne HROW.out ho ht hs
       obtain ⟨S, hSd⟩ : ∃ S : Nat → Prop, S = fun b => (Value.slice rA l.length rc).ownBlock = some b := ⟨_, rfl⟩
       have x0 : ∀ q : Wl (fun z => Upd S Wr z), q.val.cell? ⟨sb, 1, none⟩ = some (.slice (some ⟨rb, 0, none⟩) n n) := fun q => (HSR.out.box.keep q.prop (by rw [hSd]; exact HSN.out _ _ _ HSR.out.box (by decide))).cell rfl
       have x1 : ∀ q : Wl (fun z => Upd S Wr z), q.val.cell? ⟨rb, y, none⟩ = some (.slice rA l.length rc) := fun q => (HSR.out.bef.own.keep q.prop (by rw [hSd]; exact HSN.out _ _ _ HSR.out.bef.own (by decide))).cell HVD.out
       have x2 : ∀ q : Wl (fun z => Upd S Wr z), q.val.frozen? ⟨rb, y, none⟩ = false := fun q => (HSR.out.bef.own.keep q.prop (by rw [hSd]; exact HSN.out _ _ _ HSR.out.bef.own (by decide))).frozen y
       have hSl : ∀ k, S k → k < Wr.heap.size := fun k hk => by
        rw [hSd] at hk
        exact (HROW.out.lt k hk).2
       have hwsz : w.heap.size ≤ Wr.heap.size := by have := HSR.out.box.lt; simp only at this; omega
       haveI : Inhabited (Wl (fun z => Upd S Wr z)) := ⟨⟨Wr, Upd.refl _ _⟩⟩
       refine wp_region_turn (s := (⟨Wr, Below.refl _ _⟩ : Wl (fun z => Below Wr.heap.size Wr z))) (C1 := fun z => Upd S Wr z) (T := Upd S) (f := 14) 15 (fun i => match i with
        | 13 => some (cellSpecT Wr 3 #[.int .i64 (x : Nat)])
        | 14 => some (appSpec Wr w.heap.size 3 1 (l.length + 1) (.slice rA l.length rc) (ints l ++ [.int .i64 (x : Nat)]))
        | _ => none) (fun i => match i with
        | 14 => [13]
        | _ => []) [13] [] (by simp) (by kernel_rfl) (by kernel_rfl) (by simp) (by simp) (by kernel_rfl) ?bnd1 ?keeps1 (turns_upd Wr S) ?_
       case bnd1 =>
        intro p hp o t ho ht
        simp only [List.mem_singleton] at hp
        subst hp
        simp only [List.getElem?_toArray, List.getElem?_cons_succ, List.getElem?_cons_zero, Option.some.injEq] at ho
        subst ho
        simp only [Option.some.injEq] at ht
        subst ht
        simp
       case keeps1 =>
        intro i sp h
        split at h
        · injection h with h; subst h; exact cellSpecT_keeps _ _ _ _ _ _ hSl
        · injection h with h; subst h; exact ⟨appSpec_keeps _ _ _ _ _ _ _, fun h => absurd rfl h⟩
        · cases h
       simp only [List.take_succ_cons, List.take_zero, List.drop_succ_cons, List.drop_zero]
       repeat (refine wpT_still rfl (fun K hK => ?_); go_simp; refine hK _ ?_; clear hK K)
       refine wpT_make _ rfl rfl rfl ?_ (fun q _ => ?_) ?_
       · exact ⟨_, Wr.heap.size, Nat.le_refl _, rfl⟩
       · go_simp
         refine ⟨⟨_, Nat.le_trans q.prop.size (Nat.le_refl _), rfl⟩, fun b hb => ?_, Below.alloc' (Below.refl _ _) _⟩
         simp only [Value.slice.injEq, Option.some.injEq, Addr.mk.injEq, and_true] at hb
         subst hb
         exact ⟨q.prop.size, heap_alloc_new _ _⟩
       rintro _ ⟨gb, hgb, rfl⟩
       refine wpT_turn _ rfl rfl rfl ?_ (fun q hpre => ?_) ?_
       · exact ⟨_, 0, 0, rfl⟩
       · have hp := hpre 13 (by simp) (cellSpecT Wr 3 #[.int .i64 (x : Nat)]) rfl _ _ rfl rfl gb rfl
         rw [hSd]
         exact turned_append (P := Tryz.prog) (Z := Wr) (z := q.val) _ _ 22 rfl w.heap.size 3 ii (.int .i64 0) 1 8 Tryz.underlying22 hii hiz his hib rfl (by decide) (.slice rA l.length rc) l.length (ints l) rfl (ownsRow_belowX HROW.out q.prop) gb #[.int .i64 (x : Nat)] 3 (0, 0) rfl hp.2 rfl (by intro u hu; simp only [List.mem_singleton] at hu; subst hu; rfl) (by unfold maxLen; omega) (by omega) (by have h3 := q.prop.size; omega) q.prop.size
       rintro _ ⟨g6, c6, rfl⟩
       refine wpT_nil ?_
       rintro q ⟨⟨_, _⟩, hrow6, hlie⟩
       have z1 := x1 q
       have z2 := x2 q
       have hqp : Upd (fun b => (Value.slice rA l.length rc).ownBlock = some b) Wr q.val := q.prop.mono (fun i _ h => by rw [hSd] at h; exact h)
       have e6 : (l ++ [(x : Int)]).length = l.length + 1 := by simp
       have hput := HSR.out.befPut (l' := l ++ [(x : Int)]) HVD.out hqp (by rw [e6, ints_snoc]; exact hrow6) hlie HNE.out HSP.out
       have HOWN : Hid (∀ b, (Value.slice (some ⟨g6, 0, none⟩) (l.length + 1) c6).ownBlock = some b → (Value.slice rA l.length rc).ownBlock = some b ∨ Wr.heap.size ≤ b) := fun b hb => by
        rcases hlie with e | e
        · exact .inl (by rw [← e]; exact hb)
        · exact .inr (e b hb)
       have HNR := HPT.out
       simp only at hput
       rw [← HNR] at hput
       clear HNR hrow6 hlie hqp e6 hwsz hSl HSN
       have HSR2 := Lib.hid hput.1
       have HSP2 := Lib.hid hput.2.2
       have HUP2 : Hid (Upd (fun i => i = rb ∨ i = ab) Z (Wr.alloc (.map #[] 0)) ∨ True) := .inr trivial
       have HUR2 : Hid (Upd (fun i => i = rb ∨ i = ab) Z (q.val.setCell ⟨rb, y, none⟩ (.slice (some ⟨g6, 0, none⟩) (l.length + 1) c6))) := HUR.out.trans hput.2.1 (fun i hi hs => by
        rcases hs with hs | hs
        · have h1 := HNW.out _ (.inl (List.mem_of_getElem? HVD.out)) i hs
          omega
        · exact .inl hs)
       have HNW2 : Hid (∀ v, v ∈ vb.set y (.slice (some ⟨g6, 0, none⟩) (l.length + 1) c6) ∨ v ∈ va → ∀ b, v.ownBlock = some b → Z.heap.size ≤ b) := fun v hv b hb => by
        have hzw := HUR.out.size
        rcases hv with hv | hv
        · rcases List.mem_or_eq_of_mem_set hv with h2 | rfl
          · exact HNW.out v (.inl h2) b hb
          · rcases HOWN.out b hb with h3 | h3
            · exact HNW.out _ (.inl (List.mem_of_getElem? HVD.out)) b h3
            · omega
        · exact HNW.out v (.inr hv) b hb
       clear hput HUP2 HSP HNW HSR HUR HOWN HPT HVD HROW x0 x1 x2
       gi_wp2
       clear z1 z2
       generalize q.val.setCell ⟨rb, y, none⟩ (.slice (some ⟨g6, 0, none⟩) (l.length + 1) c6) = Wr at HSR2 HUR2 ⊢
       generalize vb.set y (.slice (some ⟨g6, 0, none⟩) (l.length + 1) c6) = vb2 at HSR2 HSP2 HNW2
       have HSP := HSP2; clear HSP2
       have HNW := HNW2; clear HNW2
       have HUR := HUR2; clear HUR2
       go_upto_region 13 with (fail)
       obtain ⟨rA, rc, hvd, hrow⟩ := HSR2.out.aft.get (Nat.zero_le x) (aftTo_get hx)
       have HVD := Lib.hid hvd; clear hvd
       have HPT : Hid (aftTo P n (j + 1) = (aftTo P n j).set x (((P.take j).filter (fun q => q.1 == x)).map (fun q => (q.2 : Int)) ++ [(y : Int)])) := aftTo_put HPJ.out
       have hlr : (((P.take j).filter (fun q => q.1 == x)).map (fun q => (q.2 : Int))).length ≤ 4000 := by
        rw [List.length_map]
        refine Nat.le_trans (List.length_filter_le _ _) ?_
        rw [List.length_take]
        omega
       generalize ((P.take j).filter (fun q => q.1 == x)).map (fun q => (q.2 : Int)) = l at hrow HVD HPT hlr
       have HROW := Lib.hid hrow; clear hrow
       have HSN : Hid (∀ (t : TypeId) (b : Nat) (cs : List Value), Own Wr t b cs → t ≠ 3 → ¬ (Value.slice rA l.length rc).ownBlock = some b) := fun t b cs ho ht hs => by
        obtain ⟨tl, ho⟩ := ho
        exact ownBlock_ne HROW.out ho ht hs
       obtain ⟨S, hSd⟩ : ∃ S : Nat → Prop, S = fun b => (Value.slice rA l.length rc).ownBlock = some b := ⟨_, rfl⟩
       have x0 : ∀ q : Wl (fun z => Upd S Wr z), q.val.cell? ⟨sb, 2, none⟩ = some (.slice (some ⟨ab, 0, none⟩) n n) := fun q => (HSR2.out.box.keep q.prop (by rw [hSd]; exact HSN.out _ _ _ HSR2.out.box (by decide))).cell rfl
       have x1 : ∀ q : Wl (fun z => Upd S Wr z), q.val.cell? ⟨ab, x, none⟩ = some (.slice rA l.length rc) := fun q => (HSR2.out.aft.own.keep q.prop (by rw [hSd]; exact HSN.out _ _ _ HSR2.out.aft.own (by decide))).cell HVD.out
       have x2 : ∀ q : Wl (fun z => Upd S Wr z), q.val.frozen? ⟨ab, x, none⟩ = false := fun q => (HSR2.out.aft.own.keep q.prop (by rw [hSd]; exact HSN.out _ _ _ HSR2.out.aft.own (by decide))).frozen x
       have hSl : ∀ k, S k → k < Wr.heap.size := fun k hk => by
        rw [hSd] at hk
        exact (HROW.out.lt k hk).2
       have hwsz : w.heap.size ≤ Wr.heap.size := by have := HSR2.out.box.lt; simp only at this; omega
       haveI : Inhabited (Wl (fun z => Upd S Wr z)) := ⟨⟨Wr, Upd.refl _ _⟩⟩
       refine wp_region_turn (s := (⟨Wr, Below.refl _ _⟩ : Wl (fun z => Below Wr.heap.size Wr z))) (C1 := fun z => Upd S Wr z) (T := Upd S) (f := 14) 15 (fun i => match i with
        | 13 => some (cellSpecT Wr 3 #[.int .i64 (y : Nat)])
        | 14 => some (appSpec Wr w.heap.size 3 1 (l.length + 1) (.slice rA l.length rc) (ints l ++ [.int .i64 (y : Nat)]))
        | _ => none) (fun i => match i with
        | 14 => [13]
        | _ => []) [13] [] (by simp) (by kernel_rfl) (by kernel_rfl) (by simp) (by simp) (by kernel_rfl) ?bnd2 ?keeps2 (turns_upd Wr S) ?_
       case bnd2 =>
        intro p hp o t ho ht
        simp only [List.mem_singleton] at hp
        subst hp
        simp only [List.getElem?_toArray, List.getElem?_cons_succ, List.getElem?_cons_zero, Option.some.injEq] at ho
        subst ho
        simp only [Option.some.injEq] at ht
        subst ht
        simp
       case keeps2 =>
        intro i sp h
        split at h
        · injection h with h; subst h; exact cellSpecT_keeps _ _ _ _ _ _ hSl
        · injection h with h; subst h; exact ⟨appSpec_keeps _ _ _ _ _ _ _, fun h => absurd rfl h⟩
        · cases h
       simp only [List.take_succ_cons, List.take_zero, List.drop_succ_cons, List.drop_zero]
       repeat (refine wpT_still rfl (fun K hK => ?_); go_simp; refine hK _ ?_; clear hK K)
       refine wpT_make _ rfl rfl rfl ?_ (fun q _ => ?_) ?_
       · exact ⟨_, Wr.heap.size, Nat.le_refl _, rfl⟩
       · go_simp
         refine ⟨⟨_, Nat.le_trans q.prop.size (Nat.le_refl _), rfl⟩, fun b hb => ?_, Below.alloc' (Below.refl _ _) _⟩
         simp only [Value.slice.injEq, Option.some.injEq, Addr.mk.injEq, and_true] at hb
         subst hb
         exact ⟨q.prop.size, heap_alloc_new _ _⟩
       rintro _ ⟨gb, hgb, rfl⟩
       refine wpT_turn _ rfl rfl rfl ?_ (fun q hpre => ?_) ?_
       · exact ⟨_, 0, 0, rfl⟩
       · have hp := hpre 13 (by simp) (cellSpecT Wr 3 #[.int .i64 (y : Nat)]) rfl _ _ rfl rfl gb rfl
         rw [hSd]
         exact turned_append (P := Tryz.prog) (Z := Wr) (z := q.val) _ _ 22 rfl w.heap.size 3 ii (.int .i64 0) 1 8 Tryz.underlying22 hii hiz his hib rfl (by decide) (.slice rA l.length rc) l.length (ints l) rfl (ownsRow_belowX HROW.out q.prop) gb #[.int .i64 (y : Nat)] 3 (0, 0) rfl hp.2 rfl (by intro u hu; simp only [List.mem_singleton] at hu; subst hu; rfl) (by unfold maxLen; omega) (by omega) (by have h3 := q.prop.size; omega) q.prop.size
       rintro _ ⟨g6, c6, rfl⟩
       refine wpT_nil ?_
       rintro q ⟨⟨_, _⟩, hrow6, hlie⟩
       have z1 := x1 q
       have z2 := x2 q
       have hqp : Upd (fun b => (Value.slice rA l.length rc).ownBlock = some b) Wr q.val := q.prop.mono (fun i _ h => by rw [hSd] at h; exact h)
       have e6 : (l ++ [(y : Int)]).length = l.length + 1 := by simp
       have hput := HSR2.out.aftPut (l' := l ++ [(y : Int)]) HVD.out hqp (by rw [e6, ints_snoc]; exact hrow6) hlie HNE.out HSP.out
       have HOWN : Hid (∀ b, (Value.slice (some ⟨g6, 0, none⟩) (l.length + 1) c6).ownBlock = some b → (Value.slice rA l.length rc).ownBlock = some b ∨ Wr.heap.size ≤ b) := fun b hb => by
        rcases hlie with e | e
        · exact .inl (by rw [← e]; exact hb)
        · exact .inr (e b hb)
       have HNR := HPT.out
       simp only at hput
       rw [← HNR] at hput
       clear HNR hrow6 hlie hqp e6 hwsz hSl HSN
       have HSR3 := Lib.hid hput.1
       have HSP3 := Lib.hid hput.2.2
       have HUR3 : Hid (Upd (fun i => i = rb ∨ i = ab) Z (q.val.setCell ⟨ab, x, none⟩ (.slice (some ⟨g6, 0, none⟩) (l.length + 1) c6))) := HUR.out.trans hput.2.1 (fun i hi hs => by
        rcases hs with hs | hs
        · have h1 := HNW.out _ (.inr (List.mem_of_getElem? HVD.out)) i hs
          omega
        · exact .inr hs)
       have HNW3 : Hid (∀ v, v ∈ vb2 ∨ v ∈ va.set x (.slice (some ⟨g6, 0, none⟩) (l.length + 1) c6) → ∀ b, v.ownBlock = some b → Z.heap.size ≤ b) := fun v hv b hb => by
        have hzw := HUR.out.size
        rcases hv with hv | hv
        · exact HNW.out v (.inl hv) b hb
        · rcases List.mem_or_eq_of_mem_set hv with h2 | rfl
          · exact HNW.out v (.inr h2) b hb
          · rcases HOWN.out b hb with h3 | h3
            · exact HNW.out _ (.inr (List.mem_of_getElem? HVD.out)) b h3
            · omega
       clear hput HSP HNW HSR2 HUR HOWN HPT HVD HROW x0 x1 x2
       gi_wp2
       clear z1 z2
       generalize q.val.setCell ⟨ab, x, none⟩ (.slice (some ⟨g6, 0, none⟩) (l.length + 1) c6) = Wm at HSR3 HUR3 ⊢
       generalize va.set x (.slice (some ⟨g6, 0, none⟩) (l.length + 1) c6) = va2 at HSR3 HSP3 HNW3
       go_wp2
       go_roundg (P.length - (j + 1))
       case measure => rw [HGJ.out]; omega
       case rel => exact ⟨j + 1, vb2, va2, rfl, by omega, by go_num, HSR3, HUR3, HNW3, HSP3⟩
     · obtain rfl : j = P.length := by omega
       clear HGJ hlj
       have HBF : Hid (Below w.heap.size w wr) := HZB.out.trans (HU.out.below HZB.out.size (fun i hi => by omega))
       rw [HPLEN.out, ← HPP.out] at HSW
       go_wp2
       go_ret
       exact ⟨⟨w.heap.size, sb, bb, rb, ab, n, vb, va, befTo (pairsOf F O) n O.length, aftTo (pairsOf F O) n O.length⟩, rfl, rfl, ⟨Nat.le_of_lt hlow.2.2.1, Nat.le_of_lt hlow.2.2.2.1⟩, HN.out, by rw [← HN.out], by rw [← HN.out], HSW.out, HBF.out⟩
end Go.Proofs.YtahhdjeclbagnaaGreatDoor
