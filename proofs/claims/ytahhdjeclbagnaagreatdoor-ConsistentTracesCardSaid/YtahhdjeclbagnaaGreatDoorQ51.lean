/-
  CvT
-/
import Derived.Test.YtahhdjeclbagnaaGreatDoorQ44
namespace Go.Proofs.YtahhdjeclbagnaaGreatDoor
open Go.RowKit Go.Shelf
theorem noTwice_take {F : List KFact} {i : Nat} {x : KFact} (h : NoTwice (F.take i)) (hx : F[i]? = some x) (hn : findX (F.take i) x.ref < 0) : NoTwice (F.take (i + 1)) := by
 rw [take_snocX hx]
 unfold NoTwice at *
 rw [List.map_append, List.map_singleton, List.nodup_append]
 refine ⟨h, by simp, fun a ha b hb e => ?_⟩
 rw [List.mem_singleton] at hb
 subst hb
 subst e
 obtain ⟨y, hy, e⟩ := List.mem_map.1 ha
 have h1 := findX_range (F.take i) x.ref
 have h2 : findX (F.take i) x.ref = -1 := by omega
 unfold findX at h2
 cases e3 : (F.take i).findIdx? (fun z => z.ref == x.ref) with
 | none =>
  have := List.findIdx?_eq_none_iff.1 e3 y hy
  simp [e] at this
 | some k => rw [e3] at h2; simp only at h2; omega
theorem twice_not {F : List KFact} {i : Nat} {x : KFact} (hx : F[i]? = some x) (hn : 0 ≤ findX (F.take i) x.ref) : ¬ NoTwice F := fun h => by
 obtain ⟨y, hy, e⟩ := findX_get hn
 have hl := (List.getElem?_eq_some_iff.1 hy).1
 rw [List.length_take] at hl
 have hy2 : F[(findX (F.take i) x.ref).toNat]? = some y := by
  rw [List.getElem?_take] at hy
  rw [if_pos (by omega)] at hy
  exact hy
 have hli := (List.getElem?_eq_some_iff.1 hx).1
 have h1 := List.pairwise_iff_getElem.1 h (findX (F.take i) x.ref).toNat i (by simp; omega) (by simpa using hli) (by omega)
 simp only [List.getElem_map] at h1
 have e1 := (List.getElem?_eq_some_iff.1 hy2).2
 have e2 := (List.getElem?_eq_some_iff.1 hx).2
 rw [e1, e2] at h1
 exact h1 e
theorem rowAt_ownS {w : World} {B size : Nat} {e : TypeId} {n c : Nat} {A : Option Addr} {xs : List Value} (h : w.ownsRow B e size (.slice A n c) n xs) (h1 : ∀ u ∈ xs, u.oneCell' = true) : At w size A n c xs := by
 have hl := h.1
 rcases own_of_row h with ⟨rfl, rfl, rfl⟩ | ⟨g, rfl, _, ho⟩
 · have e : xs = [] := List.eq_nil_of_length_eq_zero (by omega)
   subst e
   exact at_nilX _ _
 · refine ho.toAt hl h1 ?_ ?_
   · rcases h.2 with ⟨h2, _⟩ | ⟨_, _, _, h2, _, _, h3, _⟩
     · simp at h2
     · simp only [Value.slice.injEq] at h2; omega
   · rcases h.2 with ⟨h2, _⟩ | ⟨_, _, _, h2, _, _, _, h3, _⟩
     · simp at h2
     · simp only [Value.slice.injEq] at h2; omega
theorem numsOne {W : World} {l : List Int} {A : Option Addr} {c : Nat} (h : At W 1 A l.length c (ints l)) : NumsAt (W.alloc (.cells #[.slice A l.length c] 22)) ⟨some ⟨W.heap.size, 0, none⟩, 1⟩ [l] := by
 generalize hW2 : World.alloc _ _ = W2
 obtain ⟨HB, h0⟩ := bx1 hW2
 refine ⟨[⟨A, c⟩], rfl, at_row h0 rfl (by simp; rfl) (by unfold maxLen; simp), fun i l' t hl ht => ?_⟩
 rcases i with _ | i
 · simp at hl ht; subst hl ht; exact h.below (by omega) HB.out
 · simp at hl
def stepE (t d x a : Int) : Nat := if (t == d) && ((x == a) && (a != -1)) then 1 else 0
def stepT (t x : Int) : Int := if x == -1 then t + 1 else t
theorem onDay_step {d a t x : Int} {L : List Int} {k : Nat} (hx : L[k]? = some x) : onDay d a t (L.drop k) = stepE t d x a + onDay d a (stepT t x) (L.drop (k + 1)) := by
 obtain ⟨h, rfl⟩ := List.getElem?_eq_some_iff.1 hx
 rw [List.drop_eq_getElem_cons h, onDay]
 unfold stepE stepT
 simp only [Bool.and_eq_true, beq_iff_eq, bne_iff_ne, ne_eq]
theorem count_succ {F : List KFact} {D : List Int} {q : KFact × Int → Bool} {k : Nat} {x : KFact} {e : Int} (hx : F[k]? = some x) (he : D[k]? = some e) : ((F.zip D).take (k + 1)).countP q = ((F.zip D).take k).countP q + if q (x, e) then 1 else 0 := by
 have hz : (F.zip D)[k]? = some (x, e) := by rw [List.getElem?_zip_eq_some]; exact ⟨hx, he⟩
 rw [take_snocX hz, List.countP_append]
 simp [List.countP_cons]
attribute [local go_sem] stillB stillUpon makesUpon
set_option maxRecDepth 100000 in
set_option maxHeartbeats 4000000 in
theorem traces_walk (f : SV) (F : List KFact) (d : SV) (D : List Int) (u : Int) (w : World) (hF : At w 6 f.A F.length f.c (factCells F)) (hR : ∀ x ∈ F, In64 x.ref) (hD : At w 1 d.A D.length d.c (ints D)) (hT : Tab w) :
 Calls Tryz.prog 8 #[.slice f.A F.length f.c, .slice d.A D.length d.c, .int .i64 u] w (RetB (.bool true) w) := by
 obtain ⟨fA, fc⟩ := f
 obtain ⟨dA, dc⟩ := d
 have hfl := atLen hF
 have hdl := atLen hD
 have hfc : F.length ≤ fc ∧ fc ≤ 9223372036854775807 := ⟨hF.2.2.1, by have := hF.2.2.2; unfold maxLen at this; simp only at this; omega⟩
 have HF := Lib.hid hF; clear hF
 have HT := Lib.hid hT; clear hT
 have HR := Lib.hid hR; clear hR
 have HD := Lib.hid hD; clear hD
 go_enter Tryz.func8, Tryz.ntmps8
 have HH := Lib.hid (head_any w HT.out)
 go_wp2_with (go_at_call 9; refine HH.out.mono ?_; rintro _ W1 ⟨rfl, hb⟩; refine Hid.out ?_)
 refine Lib.hid ?_
 have HB1 : Hid (Below w.heap.size w W1) := hb
 clear hb HH HT
 by_cases h40 : 40 < F.length
 · have q0 : (40 : Int) < (F.length : Int) := by omega
   go_wp2
   go_ret
   exact ⟨rfl, HB1.out⟩
 have q40 : ¬ (40 : Int) < (F.length : Int) := by omega
 by_cases hlen : D.length ≠ F.length
 · have q0 : ((D.length : Int) != (F.length : Int)) = true := by simp only [bne_iff_ne, ne_eq]; omega
   clear hlen
   go_wp2
   go_ret
   exact ⟨rfl, HB1.out⟩
 have hlen : D.length = F.length := by omega
 have qlen : ((D.length : Int) != (F.length : Int)) = false := by simp [hlen]
 have HLEN := Lib.hid hlen
 clear hlen
 by_cases hu0 : u < 0
 · go_wp2
   go_ret
   exact ⟨rfl, HB1.out⟩
 by_cases hu1 : 100 < u
 · go_wp2
   go_ret
   exact ⟨rfl, HB1.out⟩
 go_wp2
 clear q40 qlen
 go_loopg [8] F.length (fun gk v8 wr => ∃ (i : Nat) (z : Bl W1), gk = F.length - i ∧ i ≤ F.length ∧ v8 = .int .i64 i ∧ wr = z.val ∧ Hid (NoTwice (F.take i)))
 case atStart => exact ⟨0, ⟨W1, Below.refl _ _⟩, rfl, Nat.zero_le _, rfl, rfl, by show NoTwice _; simp [NoTwice]⟩
 case round =>
  obtain ⟨i, z, hgk, hi, rfl, rfl, HNT⟩ := hrel
  have HGK := Lib.hid hgk; clear hgk
  by_cases hlt : i < F.length
  · have i0 : (i : Int) < (F.length : Int) := by omega
    have i1 : (i : Int) ≤ (fc : Int) := by omega
    obtain ⟨x, hx⟩ : ∃ x, F[i]? = some x := ⟨F[i], List.getElem?_eq_getElem hlt⟩
    obtain ⟨fb, fo, hA0, hfb, hc0⟩ := HF.out.fact (by omega)
    subst hA0
    have x0 : ∀ y : Bl z.val, y.val.cell? ⟨fb, fo + i * 6, none⟩ = some (.int .i64 x.ref) := fun y => hc0 i x hx y.val (Below.step (Below.step HB1.out z.prop) y.prop) 0 (by omega)
    have hat : ∀ W, Below w.heap.size w W → At W 6 (some ⟨fb, fo, none⟩) (F.take i).length fc (factCells (F.take i)) := fun W hW => by
     have h := HF.out.below (by omega) hW
     refine ⟨⟨length_flat KFact.cells 6 (fun _ => rfl) _, factCells_one _, fun _ => ⟨_, rfl, fun j v hj => ?_⟩⟩, (fun h => by cases h), by rw [List.length_take]; omega, h.2.2.2⟩
     obtain ⟨ad, had, hc⟩ := h.1.2.2 (by omega)
     simp only [Option.some.injEq] at had
     subst had
     refine hc j v ?_
     have e : factCells F = factCells (F.take i) ++ factCells (F.drop i) := by unfold factCells; rw [← List.flatMap_append, List.take_append_drop]
     rw [e, List.getElem?_append_left (List.getElem?_eq_some_iff.1 hj).1]
     exact hj
    have hfi := fun y : Bl z.val => find_lit (F.take i) x.ref ⟨some ⟨fb, fo, none⟩, fc⟩ y.val (hat y.val (Below.step (Below.step HB1.out z.prop) y.prop))
    rw [List.length_take, Nat.min_eq_left (by omega)] at hfi
    have HFI := Lib.hid hfi
    have HX := Lib.hid hx
    obtain ⟨p, hp⟩ : ∃ p, findX (F.take i) x.ref = p := ⟨_, rfl⟩
    rw [hp] at HFI
    have HP := Lib.hid hp
    clear hx hc0 hat hfi hp
    go_upto_region 7 with (fail)
    change Code.wp _ _ _ _ (Bl.val (⟨z.val, Below.refl _ _⟩ : Bl z.val))
    generalize (⟨z.val, Below.refl _ _⟩ : Bl z.val) = za
    refine wp_region_bl (by kernel_rfl) (by kernel_rfl) ?_
    repeat (go_big_quiet_step ((go_at_call 19; exact Calls.bl_of (HFI.out _))))
    refine wpQuiet_nil ?_
    rintro _ ⟨zb, rfl⟩
    have HZB : Hid (Below W1.heap.size W1 zb.val) := Below.step z.prop zb.prop
    have HBZ : Hid (Below w.heap.size w zb.val) := Below.step HB1.out HZB.out
    clear x0 HFI i1
    by_cases hp0 : 0 ≤ p
    · have htw : ¬ NoTwice F := twice_not HX.out (by rw [HP.out]; exact hp0)
      have htr := trace_any (some ⟨fb, fo, none⟩) fc dA dc F D u zb.val (HF.out.below (by omega) HBZ.out) (HD.out.below (by omega) HBZ.out) HR.out (by omega)
      rw [show traceM F D u = [] by unfold traceM; rw [if_neg (fun h => htw h.2.2.2)]] at htr
      have HTR := Lib.hid htr
      clear htr htw
      go_wp2_with (go_at_call 18; refine HTR.out.mono ?_; rintro _ W8 ⟨A8, d8, rfl, h8, hb⟩; refine Hid.out ?_)
      refine Lib.hid ?_
      have HB8 : Hid (Below w.heap.size w W8) := Below.step HBZ.out hb
      go_wp2
      go_ret
      exact ⟨rfl, HB8.out⟩
    · have HNT2 : Hid (NoTwice (F.take (i + 1))) := noTwice_take HNT.out HX.out (by rw [HP.out]; omega)
      go_wp2
      go_roundg (F.length - (i + 1))
      case measure => rw [HGK.out]; omega
      case rel => exact ⟨i + 1, ⟨zb.val, HZB.out⟩, rfl, by omega, by go_num, rfl, HNT2⟩
  · obtain rfl : i = F.length := by omega
    have HN : Hid (NoTwice F) := by
     have h := HNT.out
     rw [List.take_length] at h
     exact h
    have HB2 : Hid (Below w.heap.size w z.val) := Below.step HB1.out z.prop
    generalize z.val = W2 at HB2 ⊢
    clear HNT HGK hlt hi z HB1
    have htr := trace_any fA fc dA dc F D u W2 (HF.out.below (by omega) HB2.out) (HD.out.below (by omega) HB2.out) HR.out (by omega)
    obtain ⟨L, HL⟩ : ∃ L, Hid (traceM F D u = L) := ⟨_, rfl⟩
    rw [HL.out] at htr
    have HTR := Lib.hid htr
    clear htr
    have HLL : Hid ((L.length : Int) = (D.countP (fun e => decide (0 ≤ e) && decide (e < u)) : Nat) + u) := by
     show _ = _
     rw [← HL.out, traceM_pos HLEN.out.symm (by omega) (by omega) HN.out, blocks_length HLEN.out.symm HN.out, show ((u.toNat : Nat) : Int) = u by omega]
     omega
    have hLs : L.length ≤ 1000 := by
     have h1 := HLL.out
     have h2 := List.countP_le_length (p := fun e => decide (0 ≤ e) && decide (e < u)) (l := D)
     have h3 := HLEN.out
     omega
    go_wp2_with (go_at_call 18; refine HTR.out.mono ?_; rintro _ W3 ⟨A3, d3, rfl, h3, hb⟩; refine Hid.out ?_)
    refine Lib.hid ?_
    have HB3 : Hid (Below w.heap.size w W3) := Below.step HB2.out hb
    have HL3 := Lib.hid (rowAt_own h3 (ints_one L))
    clear h3 hb HB2 HTR
    obtain ⟨ii, hii, hiz, his, hib⟩ := info_parts' (P := Tryz.prog) (t := 3) (z := some (.int .i64 0)) (s := 1) (b := 8) (by kernel_rfl)
    obtain ⟨is, hsi, hsz, hss, hsb⟩ := info_parts' (P := Tryz.prog) (t := 50) (z := some (.agg #[.int .i64 0, .int .i64 0, .int .i64 0, .int .i64 0, .int .i64 0, .bool false])) (s := 6) (b := 48) (by kernel_rfl)
    go_wp2
    go_loopg [10, 11, 12, 13] F.length (fun gk v10 v11 v12 v13 wr => ∃ (i m : Nat) (R : List KFact) (B : List Int) (A1 : Option Addr) (c1 : Nat) (A2 : Option Addr) (c2 : Nat), gk = F.length - i ∧ i ≤ F.length ∧ v13 = .int .i64 i ∧ v12 = .int .i64 m ∧ v10 = .slice A1 R.length c1 ∧ v11 = .slice A2 B.length c2 ∧ R.length ≤ i ∧ B.length ≤ i ∧ m ≤ i ∧ Hid (R = F.reverse.take i) ∧ Hid (B = D.reverse.take i) ∧ Hid (m = (D.take i).countP (fun e => decide (0 ≤ e) && decide (e < u))) ∧ Hid (wr.ownsRow W3.heap.size 50 6 (.slice A1 R.length c1) R.length (factCells R)) ∧ Hid (wr.ownsRow W3.heap.size 3 1 (.slice A2 B.length c2) B.length (ints B)) ∧ Hid (Below W3.heap.size W3 wr))
    case atStart => exact ⟨0, 0, [], [], none, 0, none, 0, rfl, Nat.zero_le _, rfl, rfl, rfl, rfl, Nat.le_refl _, Nat.le_refl _, Nat.le_refl _, (by show _ = _; simp), (by show _ = _; simp), (by show _ = _; simp), World.ownsRow_nil _ _ _ _, World.ownsRow_nil _ _ _ _, Below.refl _ _⟩
    case round =>
     obtain ⟨i, m, R, B, A1, c1, A2, c2, hgk, hi, rfl, rfl, rfl, rfl, hri, hbi, hmi, HRE, HBE, HME, HR1, HR2, HBW⟩ := hrel
     have HGK := Lib.hid hgk; clear hgk
     by_cases hlt : i < F.length
     · have i0 : (i : Int) < (F.length : Int) := by omega
       have i1 : (i : Int) < (D.length : Int) := by have := HLEN.out; omega
       obtain ⟨j, hji⟩ : ∃ j : Nat, j + i + 1 = F.length := ⟨F.length - 1 - i, by omega⟩
       have hw : (F.length : Int) - 1 - (i : Int) = (j : Int) := by omega
       have j0 : (j : Int) < (F.length : Int) := by omega
       have j1 : (j : Int) < (D.length : Int) := by have := HLEN.out; omega
       obtain ⟨x, hx⟩ : ∃ x, F[j]? = some x := ⟨F[j]'(by omega), List.getElem?_eq_getElem _⟩
       obtain ⟨e, he⟩ : ∃ e, D[j]? = some e := ⟨D[j]'(by omega), List.getElem?_eq_getElem _⟩
       obtain ⟨d, hd⟩ : ∃ d, D[i]? = some d := ⟨D[i]'(by omega), List.getElem?_eq_getElem _⟩
       obtain ⟨fb, fo, hA0, hfb, hc0⟩ := HF.out.fact (by omega)
       obtain ⟨db, do_, hA1, hdb, hc1⟩ := HD.out.1.form (by omega) (by omega)
       subst hA0 hA1
       have HWW : Hid (Below w.heap.size w wr) := Below.step HB3.out HBW.out
       have x0 : wr.cell? ⟨fb, fo + j * 6, none⟩ = some (.int .i64 x.ref) := hc0 j x hx wr HWW.out 0 (by omega)
       have x1 : wr.cell? ⟨fb, fo + j * 6 + 1, none⟩ = some (.int .i64 x.act) := hc0 j x hx wr HWW.out 1 (by omega)
       have x2 : wr.cell? ⟨fb, fo + j * 6 + 2, none⟩ = some (.int .i64 x.low) := hc0 j x hx wr HWW.out 2 (by omega)
       have x3 : wr.cell? ⟨fb, fo + j * 6 + 3, none⟩ = some (.int .i64 x.high) := hc0 j x hx wr HWW.out 3 (by omega)
       have x4 : wr.cell? ⟨fb, fo + j * 6 + 4, none⟩ = some (.int .i64 x.filed) := hc0 j x hx wr HWW.out 4 (by omega)
       have x5 : wr.cell? ⟨fb, fo + j * 6 + 5, none⟩ = some (.bool x.secret) := hc0 j x hx wr HWW.out 5 (by omega)
       have HDC : Hid (∀ W, Below w.heap.size w W → W.cell? ⟨db, do_ + j, none⟩ = some (.int .i64 e) ∧ W.cell? ⟨db, do_ + i, none⟩ = some (.int .i64 d)) := fun W hW =>
        ⟨(hW.cell (p := ⟨db, do_ + j, none⟩) hdb).trans ((hc1 j (by omega)).trans (ints_get he)), (hW.cell (p := ⟨db, do_ + i, none⟩) hdb).trans ((hc1 i (by omega)).trans (ints_get hd))⟩
       have HRN : Hid (R ++ [x] = F.reverse.take (i + 1)) := by
        show _ = _
        have h : F.reverse[i]? = some x := by rw [List.getElem?_reverse (by omega), show F.length - 1 - i = j by omega]; exact hx
        rw [take_snocX h, HRE.out]
       have HBN : Hid (B ++ [e] = D.reverse.take (i + 1)) := by
        show _ = _
        have h : D.reverse[i]? = some e := by rw [List.getElem?_reverse (by omega), show D.length - 1 - i = j by omega]; exact he
        rw [take_snocX h, HBE.out]
       have HMN : Hid (∀ c : Nat, c = (if (decide (0 ≤ d) && decide (d < u)) then 1 else 0) → m + c = (D.take (i + 1)).countP (fun e => decide (0 ≤ e) && decide (e < u))) := fun c hc => by
        rw [take_snocX hd, List.countP_append, ← HME.out, hc]
        simp [List.countP_cons]
       have hz := HBW.out.size
       clear hx he hd hc0 hc1 hji
       go_wp2_with (at_builtin; refine wpList_append_oneX rfl _ _ 31 rfl 50 is (.agg #[.int .i64 0, .int .i64 0, .int .i64 0, .int .i64 0, .int .i64 0, .bool false]) 6 48 Tryz.underlying31 hsi hsz hss hsb rfl (by decide) W3.heap.size _ _ _ rfl HR1.out [.int .i64 x.ref, .int .i64 x.act, .int .i64 x.low, .int .i64 x.high, .int .i64 x.filed, .bool x.secret] _ rfl rfl (by intro u hu; simp only [List.mem_cons, List.not_mem_nil, or_false] at hu; rcases hu with rfl | rfl | rfl | rfl | rfl | rfl <;> rfl) rfl (by unfold maxLen; omega) (by omega) hz ?_; intro g6 c6 w6 h1 h2; refine Hid.out ?_)
       refine Lib.hid ?_
       have HU6 : Hid (Upd (fun k => (Value.slice A1 R.length c1).ownBlock = some k) wr w6) := Upd.trans ((Upd.refl _ wr).alloc _) (Upd.of_grown h2) (fun i _ h => h)
       have HB6 : Hid (Below W3.heap.size W3 w6) := HBW.out.trans (HU6.out.below hz (fun k hk => (HR1.out.lt k hk).1))
       have HL6 : Hid ((R ++ [x]).length = R.length + 1) := by show _ = _; simp
       have HR6 : Hid (w6.ownsRow W3.heap.size 50 6 (.slice (some ⟨g6, 0, none⟩) (R ++ [x]).length c6) (R ++ [x]).length (factCells (R ++ [x]))) := by
        show World.ownsRow _ _ _ _ _ _ _
        rw [HL6.out, show factCells (R ++ [x]) = factCells R ++ x.cells by simp [factCells]]
        exact h1
       have HR26 : Hid (w6.ownsRow W3.heap.size 3 1 (.slice A2 B.length c2) B.length (ints B)) := ownsRow_upd HR2.out HU6.out (fun k hk hs => by
        obtain ⟨cs, fz, h5⟩ := ownsRow_typed HR2.out k hk
        exact ownBlock_ne HR1.out h5 (by decide) hs)
       have HW6 : Hid (Below w.heap.size w w6) := Below.step HB3.out HB6.out
       have y0 := (HDC.out w6 HW6.out).1
       have hz6 := HB6.out.size
       clear h1 h2 x0 x1 x2 x3 x4 x5 HR1 HR2 HBW HU6 HWW hz
       go_wp2_with (at_builtin; refine wpList_append_oneX rfl _ _ 22 rfl 3 ii (.int .i64 0) 1 8 Tryz.underlying22 hii hiz his hib rfl (by decide) W3.heap.size _ _ _ rfl HR26.out [.int .i64 e] _ rfl rfl (by intro u hu; simp only [List.mem_singleton] at hu; subst hu; rfl) rfl (by unfold maxLen; omega) (by omega) hz6 ?_; intro g7 c7 w7 h1 h2; refine Hid.out ?_)
       refine Lib.hid ?_
       have HU7 : Hid (Upd (fun k => (Value.slice A2 B.length c2).ownBlock = some k) w6 w7) := Upd.trans ((Upd.refl _ w6).alloc _) (Upd.of_grown h2) (fun i _ h => h)
       have HB7 : Hid (Below W3.heap.size W3 w7) := HB6.out.trans (HU7.out.below hz6 (fun k hk => (HR26.out.lt k hk).1))
       have HL7 : Hid ((B ++ [e]).length = B.length + 1) := by show _ = _; simp
       have HR27 : Hid (w7.ownsRow W3.heap.size 3 1 (.slice (some ⟨g7, 0, none⟩) (B ++ [e]).length c7) (B ++ [e]).length (ints (B ++ [e]))) := by
        show World.ownsRow _ _ _ _ _ _ _
        rw [HL7.out, ints_snoc]
        exact h1
       have HR17 : Hid (w7.ownsRow W3.heap.size 50 6 (.slice (some ⟨g6, 0, none⟩) (R ++ [x]).length c6) (R ++ [x]).length (factCells (R ++ [x]))) := ownsRow_upd HR6.out HU7.out (fun k hk hs => by
        obtain ⟨cs, fz, h5⟩ := ownsRow_typed HR6.out k hk
        exact ownBlock_ne HR26.out h5 (by decide) hs)
       have HW7 : Hid (Below w.heap.size w w7) := Below.step HB3.out HB7.out
       have y1 := (HDC.out w7 HW7.out).2
       clear h1 h2 y0 HR6 HR26 HB6 HU7 HW6 hz6 HDC hw j0 j1
       cases q1 : decide (0 ≤ d) with
       | false =>
        have HM2 := HMN.out 0 (by rw [q1]; rfl)
        rw [Nat.add_zero] at HM2
        have HM3 := Lib.hid HM2
        clear HM2
        go_wp2
        go_roundg (F.length - (i + 1))
        case measure => rw [HGK.out]; omega
        case rel => exact ⟨i + 1, m, R ++ [x], B ++ [e], _, _, _, _, rfl, by omega, by go_num, rfl, by rw [HL6.out], by rw [HL7.out], by rw [HL6.out]; omega, by rw [HL7.out]; omega, by omega, HRN, HBN, HM3, HR17, HR27, HB7⟩
       | true =>
        cases q2 : decide (d < u) with
        | false =>
         have HM2 := HMN.out 0 (by rw [q1, q2]; rfl)
         rw [Nat.add_zero] at HM2
         have HM3 := Lib.hid HM2
         clear HM2
         go_wp2
         go_roundg (F.length - (i + 1))
         case measure => rw [HGK.out]; omega
         case rel => exact ⟨i + 1, m, R ++ [x], B ++ [e], _, _, _, _, rfl, by omega, by go_num, rfl, by rw [HL6.out], by rw [HL7.out], by rw [HL6.out]; omega, by rw [HL7.out]; omega, by omega, HRN, HBN, HM3, HR17, HR27, HB7⟩
        | true =>
         have HM3 := Lib.hid (HMN.out 1 (by rw [q1, q2]; rfl))
         go_wp2
         go_roundg (F.length - (i + 1))
         case measure => rw [HGK.out]; omega
         case rel => exact ⟨i + 1, m + 1, R ++ [x], B ++ [e], _, _, _, _, rfl, by omega, by go_num, by go_num, by rw [HL6.out], by rw [HL7.out], by rw [HL6.out]; omega, by rw [HL7.out]; omega, by omega, HRN, HBN, HM3, HR17, HR27, HB7⟩
     · obtain rfl : i = F.length := by omega
       have HRR : Hid (R = F.reverse) := by
        have h := HRE.out
        rw [List.take_of_length_le (by simp)] at h
        exact h
       have HBR : Hid (B = D.reverse) := by
        have h := HBE.out
        rw [List.take_of_length_le (by have := HLEN.out; simp; omega)] at h
        exact h
       have HMR : Hid ((L.length : Int) = (m : Int) + u) := by
        have h := HME.out
        rw [List.take_of_length_le (by have := HLEN.out; omega)] at h
        show _ = _
        rw [HLL.out, h]
       have ql : ((L.length : Int) != (m : Int) + u) = false := by
        have h := HMR.out
        rw [bne_eq_false_iff_eq]
        exact h
       have HW4 : Hid (Below w.heap.size w wr) := Below.step HB3.out HBW.out
       have HL4 := Lib.hid (HL3.out.below (by omega) HBW.out)
       have HAR := Lib.hid (rowAt_ownS HR1.out (factCells_one R))
       have HAB := Lib.hid (rowAt_own HR2.out (ints_one B))
       have hrl : R.length ≤ 4000 := by omega
       have hm40 : (m : Int) ≤ 40 := by omega
       clear HRE HBE HME HR1 HR2 HGK hlt hi hri hbi hmi HLL hii hiz his hib hsi hsz hss hsb HBW
       have hba : Below wr.heap.size wr (wr.alloc (.cells #[.slice A3 L.length d3] 22)) := Below.alloc' (Below.refl _ _) _
       have htr := trace_any A1 c1 A2 c2 R B u (wr.alloc (.cells #[.slice A3 L.length d3] 22)) (HAR.out.below (by omega) hba) (HAB.out.below (by omega) hba) (fun x hx => by rw [HRR.out] at hx; exact HR.out x (List.mem_reverse.1 hx)) hrl
       have HTE : Hid (traceM R B u = L) := by show _ = _; rw [HRR.out, HBR.out, traceM_reverse HLEN.out.symm, HL.out]
       rw [HTE.out] at htr
       have HTR := Lib.hid htr
       have HNB : Hid (NumsAt (wr.alloc (.cells #[.slice A3 L.length d3] 22)) ⟨some ⟨wr.heap.size, 0, none⟩, 1⟩ [L]) := numsOne HL4.out
       clear htr hba hrl HAR HAB HTE
       go_wp2_with (go_at_call 18; refine HTR.out.mono ?_; rintro _ W5 ⟨A5, d5, rfl, h5, hb⟩; refine Hid.out ?_)
       refine Lib.hid ?_
       have HB5 : Hid (Below w.heap.size w W5) := Below.step HW4.out (Below.step (Below.alloc' (Below.refl _ _) _) hb)
       have HL5 := Lib.hid (HL4.out.below (by omega) (Below.step (Below.alloc' (Below.refl _ _) _) hb))
       have hsa := sames_any [L] [L] ⟨some ⟨wr.heap.size, 0, none⟩, 1⟩ ⟨some ⟨W5.heap.size, 0, none⟩, 1⟩ (W5.alloc (.cells #[.slice A5 L.length d5] 22)) ((HNB.out.below hb).below (Below.alloc' (Below.refl _ _) _)) (numsOne (rowAt_own h5 (ints_one L)))
       rw [decide_eq_true rfl] at hsa
       simp only [List.length_cons, List.length_nil] at hsa
       have HSA := Lib.hid hsa
       clear hsa h5 hb HTR HNB HL4
       go_wp2_with (go_at_call 22; refine HSA.out.mono ?_; rintro _ W6 ⟨rfl, hb⟩; refine Hid.out ?_)
       refine Lib.hid ?_
       have HB6 : Hid (Below w.heap.size w W6) := Below.step HB5.out (Below.step (Below.alloc' (Below.refl _ _) _) hb)
       have HL6 := Lib.hid (HL5.out.below (by omega) (Below.step (Below.alloc' (Below.refl _ _) _) hb))
       clear hb HSA HB5 HL5 HW4 HL3 HB3 ql HRR HBR
       go_wp2
       go_loopg [14] F.length (fun gk v14 wr => ∃ (i : Nat) (z : Bl W6), gk = F.length - i ∧ i ≤ F.length ∧ v14 = .int .i64 i ∧ wr = z.val)
       case atStart => exact ⟨0, ⟨W6, Below.refl _ _⟩, rfl, Nat.zero_le _, rfl, rfl⟩
       case round =>
        obtain ⟨i, z, hgk, hi, rfl, rfl⟩ := hrel
        have HGK := Lib.hid hgk; clear hgk
        by_cases hlt : i < F.length
        · have i0 : (i : Int) < (F.length : Int) := by omega
          have i1 : (i : Int) < (D.length : Int) := by have := HLEN.out; omega
          obtain ⟨x, hx⟩ : ∃ x, F[i]? = some x := ⟨F[i], List.getElem?_eq_getElem hlt⟩
          obtain ⟨d, hd⟩ : ∃ d, D[i]? = some d := ⟨D[i]'(by have := HLEN.out; omega), List.getElem?_eq_getElem _⟩
          obtain ⟨fb, fo, hA0, hfb, hc0⟩ := HF.out.fact (by omega)
          obtain ⟨db, do_, hA1, hdb, hc1⟩ := HD.out.1.form (by omega) (by omega)
          subst hA0 hA1
          have HFC : Hid (∀ (k : Nat) (y : KFact), F[k]? = some y → ∀ z : Bl W6, z.val.cell? ⟨fb, fo + k * 6 + 1, none⟩ = some (.int .i64 y.act)) := fun k y hy z => hc0 k y hy z.val (Below.step HB6.out z.prop) 1 (by omega)
          have HDC : Hid (∀ (k : Nat) (e : Int), D[k]? = some e → ∀ z : Bl W6, z.val.cell? ⟨db, do_ + k, none⟩ = some (.int .i64 e)) := fun k e he z =>
           ((Below.step HB6.out z.prop).cell (p := ⟨db, do_ + k, none⟩) hdb).trans ((hc1 k (by have := (List.getElem?_eq_some_iff.1 he).1; omega)).trans (ints_get he))
          have HXI : Hid (F[i]? = some x ∧ D[i]? = some d) := ⟨hx, hd⟩
          obtain ⟨a, ha⟩ : ∃ a, x.act = a := ⟨_, rfl⟩
          have HFI : Hid (∀ z : Bl W6, z.val.cell? ⟨fb, fo + i * 6 + 1, none⟩ = some (.int .i64 a)) := fun z => by rw [← ha]; exact HFC.out i x hx z
          have HDI : Hid (∀ z : Bl W6, z.val.cell? ⟨db, do_ + i, none⟩ = some (.int .i64 d)) := HDC.out i d hd
          have HA := Lib.hid ha
          clear hx hd hc0 hc1 ha
          go_wp2
          go_loopg [15, 16] F.length (fun gk v15 v16 wr => ∃ (k c : Nat) (z : Bl W6), gk = F.length - k ∧ v15 = .int .i64 c ∧ v16 = .int .i64 k ∧ wr = z.val ∧ k ≤ F.length ∧ c ≤ k ∧ Hid (c = ((F.zip D).take k).countP (fun p => (p.1.act == a) && (p.2 == d))))
          case atStart => exact ⟨0, 0, z, rfl, rfl, rfl, rfl, Nat.zero_le _, Nat.le_refl _, by show _ = _; simp⟩
          case round =>
           obtain ⟨k, c, z, hgk2, rfl, rfl, rfl, hk, hck, HCE⟩ := hrel
           have HGJ := Lib.hid hgk2; clear hgk2
           by_cases hlk : k < F.length
           · have k0 : (k : Int) < (F.length : Int) := by omega
             have k1 : (k : Int) < (D.length : Int) := by have := HLEN.out; omega
             obtain ⟨y, hy⟩ : ∃ y, F[k]? = some y := ⟨F[k], List.getElem?_eq_getElem hlk⟩
             obtain ⟨e, he⟩ : ∃ e, D[k]? = some e := ⟨D[k]'(by have := HLEN.out; omega), List.getElem?_eq_getElem _⟩
             have x0 : ∀ s : Bl z.val, s.val.cell? ⟨fb, fo + k * 6 + 1, none⟩ = some (.int .i64 y.act) := fun s => HFC.out k y hy ⟨s.val, Below.step z.prop s.prop⟩
             have x1 : ∀ s : Bl z.val, s.val.cell? ⟨fb, fo + i * 6 + 1, none⟩ = some (.int .i64 a) := fun s => HFI.out ⟨s.val, Below.step z.prop s.prop⟩
             have x2 : ∀ s : Bl z.val, s.val.cell? ⟨db, do_ + k, none⟩ = some (.int .i64 e) := fun s => HDC.out k e he ⟨s.val, Below.step z.prop s.prop⟩
             have x3 : ∀ s : Bl z.val, s.val.cell? ⟨db, do_ + i, none⟩ = some (.int .i64 d) := fun s => HDI.out ⟨s.val, Below.step z.prop s.prop⟩
             have HCN : Hid (c + (if (y.act == a) && (e == d) then 1 else 0) = ((F.zip D).take (k + 1)).countP (fun p => (p.1.act == a) && (p.2 == d))) := by show _ = _; rw [count_succ hy he, HCE.out]
             clear hy he
             generalize y.act = b at x0 HCN
             go_upto_region 29 with (fail)
             change Code.wp _ _ _ _ (Bl.val (⟨z.val, Below.refl _ _⟩ : Bl z.val))
             generalize (⟨z.val, Below.refl _ _⟩ : Bl z.val) = za
             cases q1 : (b == a) with
             | false =>
              have HC2 := HCN.out
              rw [q1] at HC2
              have HC3 := Lib.hid HC2
              clear HC2
              refine wp_region_bl (by kernel_rfl) (by kernel_rfl) ?_
              repeat (go_big_quiet_step (fail))
              refine wpQuiet_nil ?_
              rintro _ ⟨zb, rfl⟩
              have HZB : Hid (Below W6.heap.size W6 zb.val) := Below.step z.prop zb.prop
              clear x0 x1 x2 x3 q1
              go_wp2
              go_roundg (F.length - (k + 1))
              case measure => rw [HGJ.out]; omega
              case rel => exact ⟨k + 1, c, ⟨zb.val, HZB.out⟩, rfl, rfl, by go_num, rfl, by omega, by omega, HC3⟩
             | true =>
              cases q2 : (e == d) with
              | false =>
               have HC2 := HCN.out
               rw [q1, q2] at HC2
               have HC3 := Lib.hid HC2
               clear HC2
               refine wp_region_bl (by kernel_rfl) (by kernel_rfl) ?_
               repeat (go_big_quiet_step (fail))
               refine wpQuiet_nil ?_
               rintro _ ⟨zb, rfl⟩
               have HZB : Hid (Below W6.heap.size W6 zb.val) := Below.step z.prop zb.prop
               clear x0 x1 x2 x3 q1 q2
               go_wp2
               go_roundg (F.length - (k + 1))
               case measure => rw [HGJ.out]; omega
               case rel => exact ⟨k + 1, c, ⟨zb.val, HZB.out⟩, rfl, rfl, by go_num, rfl, by omega, by omega, HC3⟩
              | true =>
               have HC2 := HCN.out
               rw [q1, q2] at HC2
               have HC3 := Lib.hid HC2
               clear HC2
               refine wp_region_bl (by kernel_rfl) (by kernel_rfl) ?_
               repeat (go_big_quiet_step (fail))
               refine wpQuiet_nil ?_
               rintro _ ⟨zb, rfl⟩
               have HZB : Hid (Below W6.heap.size W6 zb.val) := Below.step z.prop zb.prop
               clear x0 x1 x2 x3 q1 q2
               go_wp2
               go_roundg (F.length - (k + 1))
               case measure => rw [HGJ.out]; omega
               case rel => exact ⟨k + 1, c + 1, ⟨zb.val, HZB.out⟩, rfl, by go_num, by go_num, rfl, by omega, by omega, HC3⟩
           · obtain rfl : k = F.length := by omega
             have HCT : Hid (c = (F.zip D).countP (fun p => (p.1.act == a) && (p.2 == d))) := by
              have h := HCE.out
              rw [List.take_of_length_le (by rw [List.length_zip]; omega)] at h
              exact h
             have c40 : c ≤ 40 := by omega
             clear HCE HGJ hck hlk hk
             obtain ⟨T, hT0⟩ : ∃ T, onDay d a 0 L = T := ⟨_, rfl⟩
             go_wp2
             go_loopg [15, 17, 18] L.length (fun gk v15 v17 v18 wr => ∃ (k : Nat) (m t : Int) (z : Bl W6), gk = L.length - k ∧ v15 = .int .i64 m ∧ v17 = .int .i64 t ∧ v18 = .int .i64 k ∧ wr = z.val ∧ k ≤ L.length ∧ -(k : Int) ≤ m ∧ m ≤ 40 ∧ 0 ≤ t ∧ t ≤ k ∧ Hid (m + (T : Int) = (c : Int) + (onDay d a t (L.drop k) : Nat)))
             case atStart => exact ⟨0, c, 0, z, rfl, rfl, rfl, rfl, rfl, Nat.zero_le _, by omega, by omega, Int.le_refl _, Int.le_refl _, by show _ = _; rw [List.drop_zero, hT0]⟩
             case round =>
              obtain ⟨k, m, t, z, hgk2, rfl, rfl, rfl, rfl, hk, hm0, hm1, ht0, ht1, HME⟩ := hrel
              have HGJ := Lib.hid hgk2; clear hgk2
              by_cases hlk : k < L.length
              · have k0 : (k : Int) < (L.length : Int) := by omega
                obtain ⟨y, hy⟩ : ∃ y, L[k]? = some y := ⟨L[k], List.getElem?_eq_getElem hlk⟩
                obtain ⟨lb, lo, hA2, hlb, hc2⟩ := HL6.out.1.form (by omega) (by omega)
                subst hA2
                have x0 : ∀ s : Bl z.val, s.val.cell? ⟨lb, lo + k, none⟩ = some (.int .i64 y) := fun s => ((Below.step z.prop s.prop).cell (p := ⟨lb, lo + k, none⟩) hlb).trans ((hc2 k (by omega)).trans (ints_get hy))
                have x1 : ∀ s : Bl z.val, s.val.cell? ⟨fb, fo + i * 6 + 1, none⟩ = some (.int .i64 a) := fun s => HFI.out ⟨s.val, Below.step z.prop s.prop⟩
                have x3 : ∀ s : Bl z.val, s.val.cell? ⟨db, do_ + i, none⟩ = some (.int .i64 d) := fun s => HDI.out ⟨s.val, Below.step z.prop s.prop⟩
                have HST := Lib.hid (onDay_step (d := d) (a := a) (t := t) hy)
                have k2 : (k : Int) ≤ 1000 := by omega
                clear hy hc2
                go_upto_region 35 with (fail)
                change Code.wp _ _ _ _ (Bl.val (⟨z.val, Below.refl _ _⟩ : Bl z.val))
                generalize (⟨z.val, Below.refl _ _⟩ : Bl z.val) = za
                cases q1 : (t == d) <;> cases q2 : (y == a) <;> cases q3 : (a != -1) <;> cases q4 : (y == -1)
                all_goals
                 have hst := HST.out
                 have hme := HME.out
                 unfold stepE stepT at hst
                 rw [q1, q2, q3, q4] at hst
                 simp only [Bool.and_true, Bool.and_false, if_true, if_false, Bool.false_eq_true] at hst
                 rw [hst] at hme
                 have HMN := Lib.hid hme
                 clear hst hme
                 refine wp_region_bl (by kernel_rfl) (by kernel_rfl) ?_
                 repeat (go_big_quiet_step (fail))
                 refine wpQuiet_nil ?_
                 rintro _ ⟨zb, rfl⟩
                 have HZB : Hid (Below W6.heap.size W6 zb.val) := Below.step z.prop zb.prop
                 have x9 := x0 zb
                 clear x0 x1 x3 q1 q2 q3
                 go_wp2
                 go_roundg (L.length - (k + 1))
                 case measure => rw [HGJ.out]; omega
                 case rel => exact ⟨k + 1, _, _, ⟨zb.val, HZB.out⟩, rfl, rfl, rfl, by go_num, rfl, by omega, by omega, by omega, by omega, by omega, by have := HMN.out; show _ = _; omega⟩
              · obtain rfl : k = L.length := by omega
                have HMF : Hid (m + (T : Int) = c) := by
                 have h := HME.out
                 rw [List.drop_eq_nil_of_le (by omega)] at h
                 show _ = _
                 rw [h]
                 show (c : Int) + ((0 : Nat) : Int) = _
                 omega
                have x3 := HDI.out z
                have HTH := Lib.hid hT0
                clear HME HGJ hlk hk hm0 hm1 ht0 ht1 hT0
                cases p1 : decide (0 ≤ d) with
                | false =>
                 go_wp2
                 go_roundg (F.length - (i + 1))
                 case measure => rw [HGK.out]; omega
                 case rel => exact ⟨i + 1, z, rfl, by omega, by go_num, rfl⟩
                | true =>
                 cases p2 : decide (d < u) with
                 | false =>
                  go_wp2
                  go_roundg (F.length - (i + 1))
                  case measure => rw [HGK.out]; omega
                  case rel => exact ⟨i + 1, z, rfl, by omega, by go_num, rfl⟩
                 | true =>
                  cases p3 : (m != 0) with
                  | false =>
                   go_wp2
                   go_roundg (F.length - (i + 1))
                   case measure => rw [HGK.out]; omega
                   case rel => exact ⟨i + 1, z, rfl, by omega, by go_num, rfl⟩
                  | true =>
                   have hng := negative_any F ⟨some ⟨fb, fo, none⟩, fc⟩ z.val (HF.out.below (by omega) (Below.step HB6.out z.prop))
                   have hneg : negF F = true := by
                    cases hn : negF F with
                    | true => rfl
                    | false =>
                     exfalso
                     have hact : ActsOk F := fun y hy => by
                      have := List.any_eq_false.1 hn y hy
                      simp at this
                      exact this
                     have ha0 := hact x (List.mem_of_getElem? HXI.out.1)
                     have hax := HA.out
                     simp only [decide_eq_true_eq] at p1 p2
                     have h1 := blocks_onDay HLEN.out.symm hact HN.out u.toNat d a (by omega) p1 (by omega)
                     have h2 := HL.out
                     rw [traceM_pos HLEN.out.symm (by omega) (by omega) HN.out] at h2
                     rw [h2, HTH.out, ← HCT.out] at h1
                     have h3 := HMF.out
                     simp only [bne_iff_ne, ne_eq] at p3
                     omega
                   rw [hneg] at hng
                   have HNG := Lib.hid hng
                   clear hng hneg
                   go_wp2_with (go_at_call 23; refine HNG.out.mono ?_; rintro _ W9 ⟨rfl, hb⟩; refine Hid.out ?_)
                   refine Lib.hid ?_
                   have HZ9 : Hid (Below W6.heap.size W6 W9) := Below.step z.prop hb
                   clear hb x3 HNG
                   go_wp2
                   go_roundg (F.length - (i + 1))
                   case measure => rw [HGK.out]; omega
                   case rel => exact ⟨i + 1, ⟨W9, HZ9.out⟩, rfl, by omega, by go_num, rfl⟩
        · have HBE : Hid (Below w.heap.size w z.val) := Below.step HB6.out z.prop
          go_wp2
          go_ret
          exact ⟨rfl, HBE.out⟩
end Go.Proofs.YtahhdjeclbagnaaGreatDoor
