/-
  CtB
-/
import Derived.Test.YtahhdjeclbagnaaGreatDoorQ31
import Derived.Test.YtahhdjeclbagnaaGreatDoorQ19
namespace Go.Proofs.YtahhdjeclbagnaaGreatDoor
open Go.RowKit Go.Shelf
def actV (F : List KFact) (r : Int) : Option Value := (F.find? (fun x => x.ref == r)).map (fun x => Value.int .i64 x.act)
theorem actV_nil : actV [] = fun _ => none := rfl
theorem actV_snoc {F : List KFact} {x : KFact} (h : actV F x.ref = none) (r : Int) : (if r = x.ref then some (Value.int .i64 x.act) else actV F r) = actV (F ++ [x]) r := by
 unfold actV at *
 rw [List.find?_append]
 by_cases e : r = x.ref
 · subst e
   rw [if_pos rfl]
   simp only [Option.map_eq_none_iff] at h
   rw [h]
   simp
 · rw [if_neg e]
   have : List.find? (fun y : KFact => y.ref == r) [x] = none := by simp [show (x.ref == r) = false by simp; exact fun h2 => e h2.symm]
   rw [this, Option.or_none]
theorem actV_none {F : List KFact} {r : Int} : actV F r = none ↔ r ∉ F.map (·.ref) := by
 unfold actV
 simp only [Option.map_eq_none_iff, List.find?_eq_none, List.mem_map]
 simp
theorem noTwice_snoc {F : List KFact} {x : KFact} (h : NoTwice F) (hx : actV F x.ref = none) : NoTwice (F ++ [x]) := by
 unfold NoTwice at *
 rw [actV_none] at hx
 rw [List.map_append, List.nodup_append]
 exact ⟨h, by simp, fun a ha b hb e => by simp at hb; rw [e, hb] at ha; exact hx ha⟩
theorem noTwice_not {F : List KFact} {k : Nat} {x : KFact} {v : Value} (hx : F[k]? = some x) (hv : actV (F.take k) x.ref = some v) : ¬ NoTwice F := fun h => by
 have h1 : x.ref ∈ (F.take k).map (·.ref) := by
  apply Classical.byContradiction
  intro h2
  rw [← actV_none, hv] at h2
  cases h2
 obtain ⟨y, hy, e⟩ := List.mem_map.1 h1
 obtain ⟨i, hi⟩ := List.mem_iff_getElem?.1 hy
 rw [List.getElem?_take] at hi
 split at hi
 · rename_i hik
   obtain ⟨a1, rfl⟩ := List.getElem?_eq_some_iff.1 hi
   obtain ⟨a2, rfl⟩ := List.getElem?_eq_some_iff.1 hx
   have h3 := List.pairwise_iff_getElem.1 h i k (by simpa using a1) (by simpa using a2) hik
   simp at h3
   exact h3 e
 · cases hi
def refsTo (F : List KFact) (D : List Int) (n k : Nat) : List (List Int) := (List.range n).map (fun d : Nat => refsAt (F.take k) (D.take k) (d : Int))
theorem refsTo_zero (F : List KFact) (D : List Int) (n : Nat) : refsTo F D n 0 = List.replicate n [] := by
 apply List.ext_getElem?
 intro i
 simp [refsTo, refsAt, List.getElem?_replicate]
 by_cases h : i < n <;> simp [h]
theorem refsAt_snoc {F : List KFact} {D : List Int} (hl : F.length = D.length) (x : KFact) (e d : Int) : refsAt (F ++ [x]) (D ++ [e]) d = refsAt F D d ++ if e = d then [x.ref] else [] := by
 unfold refsAt
 rw [List.zip_append hl, List.filter_append, List.map_append]
 congr 1
 by_cases h : e = d <;> simp [h]
theorem refsTo_skip {F : List KFact} {D : List Int} {n k : Nat} (hl : F.length = D.length) {x : KFact} {e : Int} (hx : F[k]? = some x) (he : D[k]? = some e) (h : ¬ (0 ≤ e ∧ e < n)) : refsTo F D n (k + 1) = refsTo F D n k := by
 unfold refsTo
 refine List.map_congr_left fun d hd => ?_
 rw [take_snocX hx, take_snocX he, refsAt_snoc (by simp [hl]), if_neg (by have := List.mem_range.1 hd; omega), List.append_nil]
theorem refsTo_put {F : List KFact} {D : List Int} {n k : Nat} (hl : F.length = D.length) {x : KFact} {d : Nat} (hx : F[k]? = some x) (he : D[k]? = some (d : Int)) (h : d < n) : refsTo F D n (k + 1) = (refsTo F D n k).set d (refsAt (F.take k) (D.take k) d ++ [x.ref]) := by
 apply List.ext_getElem?
 intro i
 unfold refsTo
 rw [List.getElem?_set]
 simp only [List.getElem?_map, List.length_map, List.length_range]
 rw [take_snocX hx, take_snocX he]
 by_cases e : d = i
 · subst e
   rw [if_pos rfl, if_pos h, List.getElem?_range h, Option.map_some, refsAt_snoc (by simp [hl]), if_pos rfl]
 · rw [if_neg e]
   cases hr : (List.range n)[i]? with
   | none => rfl
   | some j =>
    have hj : j = i := by
     obtain ⟨a, b⟩ := List.getElem?_eq_some_iff.1 hr
     simp at b
     exact b.symm
    rw [Option.map_some, Option.map_some, refsAt_snoc (by simp [hl]), if_neg (by omega), List.append_nil]
theorem refsTo_get {F : List KFact} {D : List Int} {n k d : Nat} (h : d < n) : (refsTo F D n k)[d]? = some (refsAt (F.take k) (D.take k) d) := by
 unfold refsTo
 rw [List.getElem?_map, List.getElem?_range h, Option.map_some]
theorem refsAt_len (F : List KFact) (D : List Int) (d : Int) : (refsAt F D d).length ≤ F.length := by
 unfold refsAt
 rw [List.length_map]
 refine Nat.le_trans (List.length_filter_le _ _) ?_
 rw [List.length_zip]
 omega
theorem sorted_sortK {l : List Int} (h : l.Nodup) : l.mergeSort (fun x y => decide (x ≤ y)) = sortK l := by
 have hp := List.mergeSort_perm l (fun x y : Int => decide (x ≤ y))
 refine ints_unique ?_ (sortK_sorted l) (fun x => hp.mem_iff.trans (sortK_mem l x).symm)
 have h1 := List.pairwise_mergeSort (le := fun x y : Int => decide (x ≤ y)) (fun a b c h h' => by simp only [decide_eq_true_eq] at *; omega) (fun a b => by simp only [Bool.or_eq_true, decide_eq_true_eq]; omega) l
 have h2 : (l.mergeSort (fun x y => decide (x ≤ y))).Nodup := hp.nodup_iff.2 h
 exact List.Pairwise.imp₂ (fun a b h3 h4 => by simp only [decide_eq_true_eq] at h3; omega) h1 h2
theorem actV_of {F : List KFact} {r : Int} (h : r ∈ F.map (·.ref)) : actV F r = some (.int .i64 (actOf F r)) := by
 cases e : actV F r with
 | none => exact absurd h (actV_none.1 e)
 | some v =>
  unfold actV at e
  unfold actOf
  cases e2 : F.find? (fun x => x.ref == r) with
  | none => rw [e2] at e; cases e
  | some x =>
   rw [e2] at e
   simp only [Option.map_some, Option.some.injEq] at e
   rw [← e]
   rfl
theorem blocks_short {F : List KFact} {D : List Int} (hl : F.length = D.length) (h : NoTwice F) (n : Nat) : (blocks F D n).length ≤ F.length + n := by
 rw [blocks_length hl h, hl]
 have := List.countP_le_length (p := fun e => decide (0 ≤ e) && decide (e < (n : Int))) (l := D)
 omega
def RowPost (l : List Int) (w : World) (e : Ending) (w' : World) : Prop :=
 ∃ (A : Option Addr) (c : Nat), e = .returned (.slice A l.length c) ∧ w'.ownsRow w.heap.size 3 1 (.slice A l.length c) l.length (ints l) ∧ Below w.heap.size w w'
attribute [local go_sem] stillB stillUpon makesUpon
set_option maxRecDepth 100000 in
set_option maxHeartbeats 4000000 in
theorem trace_any (fA : Option Addr) (fc : Nat) (dA : Option Addr) (dc : Nat) (F : List KFact) (D : List Int) (u : Int) (w : World) (hF : At w 6 fA F.length fc (factCells F)) (hD : At w 1 dA D.length dc (ints D)) (hR : ∀ x ∈ F, In64 x.ref) (hn : F.length ≤ 4000) :
 Calls Tryz.prog 18 #[.slice fA F.length fc, .slice dA D.length dc, .int .i64 u] w (RowPost (traceM F D u) w) := by
 have HF := Lib.hid hF; clear hF
 have HD := Lib.hid hD; clear hD
 have HR := Lib.hid hR; clear hR
 obtain ⟨T, HT⟩ : ∃ T, Hid (T = traceM F D u) := ⟨_, rfl⟩
 rw [← HT.out]
 by_cases h1 : F.length = D.length
 · by_cases h2 : 0 ≤ u
   · by_cases h3 : u ≤ 2000
     · obtain ⟨n, rfl⟩ : ∃ n : Nat, u = n := ⟨u.toNat, by omega⟩
       have hn2 : n ≤ 2000 := by omega
       have q1 : ((F.length : Int) != (D.length : Int)) = false := by simp [h1]
       have q2 : ((n : Int) < 0) = False := by simp
       have q3 : ((2000 : Int) < n) = False := by simp; omega
       have HFD := Lib.hid h1; clear h1 h2 h3
       have hmm := @run_makeMap Tryz.prog
       go_enter Tryz.func18, Tryz.ntmps18
       obtain ⟨ip, hip, hpz, hps, hpb⟩ := info_parts' (P := Tryz.prog) (t := 22) (z := some (.slice none 0 0)) (s := 1) (b := 24) (by kernel_rfl)
       obtain ⟨ii, hii, hiz, his, hib⟩ := info_parts' (P := Tryz.prog) (t := 3) (z := some (.int .i64 0)) (s := 1) (b := 8) (by kernel_rfl)
       have hmk := fun w : World => run_makeSlice (P := Tryz.prog) (w := w) 42 22 ip _ Tryz.underlying42 hip hpz .i64 .i64 (n : Int) (n : Int) (by omega) (by omega) (by rw [hps]; simp; omega) (by rw [hpb]; omega) (by omega)
       simp only [Int.toNat_natCast, hps] at hmk
       go_upto_region 4 with (fail)
       have hM : MapX In64 3 encI (w.alloc (.map #[] 0)) w.heap.size 0 (fun _ => none) := MapX.made w
       have hsz1 : (w.alloc (.map #[] 0)).heap.size = w.heap.size + 1 := World.size_alloc _ _
       generalize hW1 : w.alloc (.map #[] 0) = W1 at hM hsz1 ⊢
       have hb1 : Below w.heap.size w W1 := by rw [← hW1]; exact Below.alloc' (Below.refl _ _) _
       clear hW1
       have hx := hmk W1
       clear hmk
       go_upto_region 5 with (fail)
       generalize hWb : World.alloc _ _ = Wb
       have hbb : Below W1.heap.size W1 Wb := by rw [← hWb]; exact Below.alloc' (Below.refl _ _) _
       have hOW : Own Wb 22 (w.heap.size + 1) (List.replicate n (.slice none 0 0)) := by
        refine ⟨[], ?_⟩
        rw [List.append_nil, ← made_rows, Array.toArray_toList, ← hWb, ← hsz1, Nat.mul_one]
        exact heap_alloc_new W1 _
       have HR0 : Hid (RowsAt (Bl.val (⟨Wb, Below.step hb1 hbb⟩ : Bl w)) (w.heap.size + 2) (w.heap.size + 1) (List.replicate n (.slice none 0 0)) (refsTo F D n 0) 0) := by
        show RowsAt _ _ _ _ _ _
        rw [refsTo_zero]
        exact RowsAt.made hOW
       have HM0 : Hid (MapX In64 3 encI (Bl.val (⟨Wb, Below.step hb1 hbb⟩ : Bl w)) w.heap.size 0 (actV (F.take 0))) := hM.below hM.lt hbb
       change Code.wp _ _ _ _ (Bl.val (⟨Wb, Below.step hb1 hbb⟩ : Bl w))
       generalize (⟨Wb, Below.step hb1 hbb⟩ : Bl w) = s0 at HR0 HM0 ⊢
       clear hOW hbb hWb hx hM hb1 hsz1 hip hpz hps hpb ip W1
       go_wp2
       go_loopg [37] F.length (fun gk v37 wr => ∃ (k nn : Nat) (z : Bl w) (vs : List Value), gk = F.length - k ∧ k ≤ F.length ∧ v37 = .int .i64 k ∧ wr = z.val ∧ nn ≤ k ∧ Hid (MapX In64 3 encI z.val w.heap.size nn (actV (F.take k))) ∧ Hid (RowsAt z.val (w.heap.size + 2) (w.heap.size + 1) vs (refsTo F D n k) 0) ∧ Hid (NoTwice (F.take k)))
       case atStart =>
        have HNT0 : Hid (NoTwice (F.take 0)) := by show NoTwice _; simp [NoTwice]
        exact ⟨0, 0, s0, _, rfl, Nat.zero_le _, rfl, rfl, Nat.le_refl _, HM0, HR0, HNT0⟩
       case round =>
        obtain ⟨k, nn, z, vs, hgk, hk, rfl, rfl, hnn, HM, HRW, HNT⟩ := hrel
        have HGK := Lib.hid hgk; clear hgk HM0 HR0
        by_cases hlt : k < F.length
        · obtain ⟨fb, fo, hA0, hfb, hcell⟩ := HF.out.fact (by omega)
          subst hA0
          obtain ⟨⟨re, ac, lo, hi, fi, se⟩, hx⟩ : ∃ x, F[k]? = some x := ⟨F[k], List.getElem?_eq_getElem hlt⟩
          obtain ⟨e0, e1, e2, e3, e4, e5⟩ := rzz6 (fun z hz => hcell k _ hx z hz) rfl
          have hre : In64 re := HR.out _ (List.mem_of_getElem? hx)
          have hfd := HFD.out
          obtain ⟨db, doff, hDA, hdb, hdc⟩ := HD.out.1.form (by omega) (by omega)
          subst hDA
          obtain ⟨d, hd⟩ : ∃ d, D[k]? = some d := ⟨D[k]'(by omega), List.getElem?_eq_getElem (by omega)⟩
          have ed : ∀ z : Bl w, z.val.cell? ⟨db, doff + k, none⟩ = some (.int .i64 d) := fun z => by
           rw [z.prop.cell (p := ⟨db, doff + k, none⟩) hdb, hdc k (by omega)]
           exact ints_get hd
          have HX := Lib.hid hx; clear hx hcell
          have HDX := Lib.hid hd; clear hd hdc
          have j1 : (k : Int) < (F.length : Int) := by omega
          have j2 : (k : Int) < (D.length : Int) := by omega
          clear hfd
          go_upto_region 8 with (fail)
          generalize hWa : World.alloc _ _ = Wa
          obtain ⟨hba, hxa⟩ := bx1' hWa
          clear hWa
          have HPa : Hid (Below w.heap.size w Wa) := Below.step z.prop hba
          obtain ⟨d0, d1, d2, d3, d4, d5⟩ := kc6 hxa
          have HXA : Hid (Own Wa 50 z.val.heap.size [.int .i64 re, .int .i64 ac, .int .i64 lo, .int .i64 hi, .int .i64 fi, .bool se]) := ⟨[], by rw [List.append_nil]; exact hxa⟩
          clear e0 e1 e2 e3 e4 e5
          have hma := HM.out.below HM.out.lt hba
          have HRA := Lib.hid (HRW.out.below hba)
          have lk := MapX.lookOk lawI Tryz.underlying79 hma (zeroI Wa) hre (keyI hre)
          have q0 := d0 ⟨Wa, Below.refl _ _⟩
          have q1' := d1 ⟨Wa, Below.refl _ _⟩
          have HB0 := Lib.hid d0; clear d0 d1 d2 d3 d4 d5
          simp only at q0 q1'
          cases hav : actV (F.take k) re with
          | some v =>
           rw [hav] at lk
           simp only [Option.getD_some, Option.isSome_some] at lk
           have hT : T = [] := by
            rw [HT.out]
            unfold traceM
            rw [if_neg (fun h => noTwice_not HX.out hav h.2.2.2)]
           subst hT
           clear hav hma HM HRW HRA HNT HB0 HXA q1'
           go_wp2
           go_ret
           exact ⟨none, 0, rfl, World.ownsRow_nil _ _ _ _, HPa.out⟩
          | none =>
           obtain ⟨w2, hrun, hm2, htr⟩ := MapX.put encI_inj lawI Tryz.underlying79 hma (by unfold maxLen; omega) hre (keyI hre) (.int .i64 ac)
           rw [hav] at lk
           simp only [Option.getD_none, Option.isSome_none] at lk
           go_upto_region 12 with (fail)
           have HAV : Hid (NoTwice (F.take (k + 1))) := by show NoTwice _; rw [take_snocX HX.out]; exact noTwice_snoc HNT.out hav
           have HM2 : Hid (MapX In64 3 encI w2 w.heap.size (if ((actV (F.take k)) re).isSome then nn else nn + 1) (actV (F.take (k + 1)))) := by
            show MapX _ _ _ _ _ _ _
            rw [take_snocX HX.out]
            exact hm2.congr (fun r => actV_snoc (x := (⟨re, ac, lo, hi, fi, se⟩ : KFact)) hav r)
           obtain ⟨nn', hnn'⟩ : ∃ nn', nn' = (if ((actV (F.take k)) re).isSome then nn else nn + 1) := ⟨_, rfl⟩
           rw [← hnn'] at HM2
           have hnn2 : nn' ≤ k + 1 := by rw [hnn']; split <;> omega
           clear hnn' hav hm2 hrun lk hma HM HNT
           have hzs := z.prop.size
           have HU2 : Hid (Upd (fun b => b = w.heap.size) Wa w2) := mapTurned_updX htr
           have hmbz : w.heap.size < z.val.heap.size := by have := HRW.out.own.lt; omega
           have HBX : Hid (Own w2 50 z.val.heap.size [.int .i64 re, .int .i64 ac, .int .i64 lo, .int .i64 hi, .int .i64 fi, .bool se]) := HXA.out.keep HU2.out (by omega)
           have HR2 : Hid (RowsAt w2 (w.heap.size + 2) (w.heap.size + 1) vs (refsTo F D n k) 0) := HRA.out.upd HU2.out (by omega) (fun v hv b hb e => by have := (HRA.out.low v hv b hb).1; omega)
           have HB2 : Hid (Below w.heap.size w w2) := HPa.out.trans (mapTurned_below htr (Nat.le_refl _))
           clear htr HRA HB0 HPa HXA q0 q1'
           obtain ⟨bx, hbx⟩ : ∃ bx, bx = z.val.heap.size := ⟨_, rfl⟩
           rw [← hbx] at HBX ⊢
           have hbx2 : w.heap.size + 2 ≤ bx := by have := HRW.out.own.lt; omega
           clear HU2 hmbz hzs hba HRW hbx
           have ed2 := ed ⟨w2, HB2.out⟩
           simp only at ed2
           clear ed
           by_cases hin : 0 ≤ d ∧ d < (n : Int)
           · obtain ⟨dd, rfl⟩ : ∃ dd : Nat, d = dd := ⟨d.toNat, by omega⟩
             have hdn : dd < n := by omega
             go_upto_region 14 with (fail)
             obtain ⟨rA, rc, hvd, hrow⟩ := HR2.out.get (Nat.zero_le dd) (refsTo_get hdn)
             have HRN : Hid (refsTo F D n (k + 1) = (refsTo F D n k).set dd (refsAt (F.take k) (D.take k) dd ++ [re])) := refsTo_put HFD.out HX.out HDX.out hdn
             have hlr := refsAt_len (F.take k) (D.take k) dd
             rw [List.length_take] at hlr
             have HVD := Lib.hid hvd; clear hvd
             obtain ⟨l, HL⟩ : ∃ l, Hid (l = refsAt (F.take k) (D.take k) dd) := ⟨_, rfl⟩
             rw [← HL.out] at hrow hlr HRN HVD
             have HROW := Lib.hid hrow; clear hrow
             have hll : l.length ≤ 4000 := by omega
             clear hlr
             obtain ⟨rb, hrb⟩ : ∃ rb, rb = w.heap.size + 1 := ⟨_, rfl⟩
             rw [← hrb] at HR2 ⊢
             have HRB := Lib.hid hrb; clear hrb
             have x0 : ∀ y : Bl w2, y.val.cell? ⟨bx, 0, none⟩ = some (.int .i64 re) := fun y => (HBX.out.below y.prop).cell rfl
             have x1 : ∀ y : Bl w2, y.val.cell? ⟨rb, dd, none⟩ = some (.slice rA l.length rc) := fun y => (HR2.out.below y.prop).own.cell HVD.out
             have x2 : ∀ y : Bl w2, y.val.frozen? ⟨rb, dd, none⟩ = false := fun y => (HR2.out.below y.prop).own.frozen dd
             refine wp_region_deps (s := (⟨w2, Below.refl _ _⟩ : Bl w2)) 9 (fun i => match i with
              | 8 => some (cellSpec w2 3 #[.int .i64 re])
              | _ => none) (fun _ => []) [] [0, 1] (by simp) (by kernel_rfl) (by kernel_rfl) (by simp) ?panics (by kernel_rfl) (by intro p hp; simp at hp) ?keeps ?_
             case panics =>
              intro e _ o v c a w _ h
              revert h
              cases o.dst <;> exact id
             case keeps =>
              intro i sp h
              split at h
              · injection h with h; subst h; exact cellSpec_keeps _ _ _
              · cases h
             simp only [List.take_succ_cons, List.take_zero, List.drop_succ_cons, List.drop_zero]
             repeat (refine wpE_still rfl (fun K hK => ?_); go_simp; refine hK _ ?_; clear hK K)
             refine wpE_make _ rfl rfl ?_ (fun y _ => ?_) ?_
             · exact ⟨_, w2.heap.size, Nat.le_refl _, rfl⟩
             · go_simp
               refine ⟨⟨_, y.prop.size, rfl⟩, fun b hb => ?_, Below.alloc' (Below.refl _ _) _⟩
               simp only [Value.slice.injEq, Option.some.injEq, Addr.mk.injEq, and_true] at hb
               subst hb
               exact heap_alloc_new _ _
             rintro _ ⟨gb, hgb, rfl⟩
             refine wpE_nil ?_
             rintro y ⟨_, hA⟩
             have hnew := hA gb rfl
             clear hA
             have hRy := HR2.out.below y.prop
             have hly := hRy.own.lt
             refine wpListIn_append_lies rfl _ _ 22 rfl (w.heap.size + 2) 3 ii (.int .i64 0) 1 8 Tryz.underlying22 hii hiz his hib rfl (by decide) _ l.length _ rfl (ownsRow_belowX HROW.out y.prop) gb #[.int .i64 re] 3 (0, 0) rfl hnew rfl (by intro u hu; simp only [List.mem_singleton] at hu; subst hu; rfl) (by unfold maxLen; omega) (by omega) (by have := HRB.out; omega) ?_
             intro g6 c6 w6 h6 hg6 hlie
             have hU6 : Upd (fun b => (Value.slice rA l.length rc).ownBlock = some b) y.val w6 := Upd.of_grown hg6
             have hnrb : ¬ (Value.slice rA l.length rc).ownBlock = some rb := fun e => (HR2.out.low _ (List.mem_of_getElem? HVD.out) rb e).2.2 rfl
             have y0 : w6.cell? ⟨rb, dd, none⟩ = some (.slice rA l.length rc) := (updCell hU6 hly hnrb).trans (x1 y)
             have y1 : w6.frozen? ⟨rb, dd, none⟩ = false := (updFrozen hU6 hly hnrb).trans (x2 y)
             have HT6 : Hid (RowsAt (w6.setCell ⟨rb, dd, none⟩ (.slice (some ⟨g6, 0, none⟩) (l.length + 1) c6)) (w.heap.size + 2) rb (vs.set dd (.slice (some ⟨g6, 0, none⟩) (l.length + 1) c6)) (refsTo F D n (k + 1)) 0) := by
              show RowsAt _ _ _ _ _ _
              rw [HRN.out]
              refine hRy.turned HVD.out hU6 (fun b hb => .inl hb) ?_ ?_
              · have e : (l ++ [re]).length = l.length + 1 := by simp
                rw [e, ints_snoc]
                exact h6
              · rcases hlie with e | e
                · have e' : (Value.slice rA l.length rc).ownBlock = some g6 := e
                  exact .inl (by rw [e']; rfl)
                · exact .inr (fun b hb => by simp only [Value.ownBlock, Option.some.injEq] at hb; omega)
             have HU6 : Hid (Upd (fun b => w.heap.size + 1 ≤ b) w2 (w6.setCell ⟨rb, dd, none⟩ (.slice (some ⟨g6, 0, none⟩) (l.length + 1) c6))) := by
              refine Upd.setCell ((updOn (Upd.refl (fun b => w.heap.size + 1 ≤ b) w2) y.prop).trans hU6 (fun i hi hs => ?_)) (.inl ?_) _
              · have := (HR2.out.low _ (List.mem_of_getElem? HVD.out) i hs).1
                omega
              · show w.heap.size + 1 ≤ rb
                rw [HRB.out]; exact Nat.le_refl _
             clear h6 hg6 hlie hU6 hnrb hRy hnew x0 x1 x2 HROW HL
             gi_wp2
             have hrb := HRB.out
             clear HRB
             subst hrb
             have HMF := Lib.hid (HM2.out.upd HU6.out (by omega))
             have HBF : Hid (Below w.heap.size w (w6.setCell ⟨w.heap.size + 1, dd, none⟩ (.slice (some ⟨g6, 0, none⟩) (l.length + 1) c6))) := HB2.out.trans (HU6.out.below HB2.out.size (fun i hi => by omega))
             clear HU6 HM2 HB2 HBX HR2 y0 y1
             generalize w6.setCell ⟨w.heap.size + 1, dd, none⟩ (.slice (some ⟨g6, 0, none⟩) (l.length + 1) c6) = Wf at HMF HBF HT6 ⊢
             go_wp2
             go_roundg (F.length - (k + 1))
             case measure => rw [HGK.out]; omega
             case rel => exact ⟨k + 1, nn', ⟨Wf, HBF.out⟩, _, rfl, by omega, by go_num, rfl, hnn2, HMF, HT6, HAV⟩
           · have HRN : Hid (RowsAt w2 (w.heap.size + 2) (w.heap.size + 1) vs (refsTo F D n (k + 1)) 0) := by
              show RowsAt _ _ _ _ _ _
              rw [refsTo_skip HFD.out HX.out HDX.out hin]
              exact HR2.out
             have hgo : d < 0 ∨ (0 ≤ d ∧ (n : Int) ≤ d) := by omega
             rcases hgo with h0 | ⟨h0, h00⟩
             · go_wp2
               go_roundg (F.length - (k + 1))
               case measure => rw [HGK.out]; omega
               case rel => exact ⟨k + 1, nn', ⟨w2, HB2.out⟩, vs, rfl, by omega, by go_num, rfl, hnn2, HM2, HRN, HAV⟩
             · go_wp2
               go_roundg (F.length - (k + 1))
               case measure => rw [HGK.out]; omega
               case rel => exact ⟨k + 1, nn', ⟨w2, HB2.out⟩, vs, rfl, by omega, by go_num, rfl, hnn2, HM2, HRN, HAV⟩
        · obtain rfl : k = F.length := by omega
          clear HGK hlt
          rw [List.take_length] at HM HNT
          have HTB : Hid (T = blocks F D n) := by
           show _ = _
           rw [HT.out, traceM_pos HFD.out (by omega) (by omega) HNT.out, Int.toNat_natCast]
          have hLL : refsTo F D n F.length = (List.range n).map (fun d : Nat => refsAt F D (d : Int)) := by
           unfold refsTo
           rw [List.take_length, HFD.out, List.take_length]
          rw [hLL] at HRW
          clear hLL HT
          obtain ⟨Z, HZ⟩ : ∃ Z, Z = z.val := ⟨_, rfl⟩
          have HZB : Hid (Below w.heap.size w Z) := by show Below _ _ _; rw [HZ]; exact z.prop
          rw [← HZ] at HM HRW ⊢
          clear HZ z
          have HLOW : Hid (∀ v ∈ vs, ∀ b, v.ownBlock = some b → b < Z.heap.size) := fun v hv b hb => (HRW.out.low v hv b hb).2.1
          have hrbz := HRW.out.own.lt
          have hvl : vs.length = n := by rw [HRW.out.len]; simp
          go_wp2
          go_loopg [80, 14] n (fun gk v80 v14 wr => ∃ (k : Nat) (A : Option Addr) (c : Nat), gk = n - k ∧ k ≤ n ∧ v80 = .int .i64 k ∧ v14 = .slice A (blocks F D k).length c ∧ Hid (wr.ownsRow Z.heap.size 3 1 (.slice A (blocks F D k).length c) (blocks F D k).length (ints (blocks F D k))) ∧ Hid (MapX In64 3 encI wr w.heap.size nn (actV F)) ∧ Hid (RowsAt wr (w.heap.size + 2) (w.heap.size + 1) vs ((List.range n).map (fun d : Nat => refsAt F D (d : Int))) k) ∧ Hid (Below w.heap.size w wr) ∧ Z.heap.size ≤ wr.heap.size)
          case atStart => exact ⟨0, none, 0, rfl, Nat.zero_le _, rfl, rfl, World.ownsRow_nil _ _ _ _, HM, HRW, HZB, Nat.le_refl _⟩
          case round =>
           obtain ⟨k, A, c, hgk, hk, rfl, rfl, HRO, HM2, HRS, HBW, hzw⟩ := hrel
           have HGK := Lib.hid hgk; clear hgk HM HRW
           by_cases hlt : k < n
           · have hget : ((List.range n).map (fun d : Nat => refsAt F D (d : Int)))[k]? = some (refsAt F D (k : Int)) := by rw [List.getElem?_map, List.getElem?_range hlt]; rfl
             obtain ⟨lA, lc, hvk, hrow⟩ := HRS.out.get (Nat.le_refl k) hget
             have hrl := refsAt_len F D (k : Int)
             have HMEM : Hid (∀ r ∈ sortK (refsAt F D (k : Int)), r ∈ F.map (·.ref)) := fun r hr => by
              rw [sortK_mem, mem_refsAt] at hr
              obtain ⟨i, x, h1, _, rfl⟩ := hr
              exact List.mem_map_of_mem (List.mem_of_getElem? h1)
             have HND : Hid ((refsAt F D (k : Int)).Nodup) := refsAt_nodup HNT.out HFD.out _
             have HBS : Hid (blocks F D (k + 1) = blocks F D k ++ ((sortK (refsAt F D (k : Int))).map (actOf F) ++ [-1])) := blocks_succ F D k
             have hbl := blocks_short HFD.out HNT.out k
             obtain ⟨l, HL⟩ : ∃ l, Hid (l = refsAt F D (k : Int)) := ⟨_, rfl⟩
             rw [← HL.out] at hvk hrow hrl HMEM HND HBS
             have x1 : wr.cell? ⟨w.heap.size + 1, k, none⟩ = some (.slice lA l.length lc) := HRS.out.own.cell hvk
             have k0 : (k : Int) < (n : Int) := by omega
             have HSO := Lib.hid (sortRow_any wr hrow (by omega))
             have HVK := Lib.hid hvk
             clear hrow hvk hget
             go_wp2_with (go_at_call 36; refine HSO.out.mono ?_; rintro e z3 ⟨rfl, hrow3, hu3⟩; refine Hid.out ?_)
             refine Lib.hid ?_
             have hmv := List.mem_of_getElem? HVK.out
             have hlow3 : ∀ b, (Value.slice lA l.length lc).ownBlock = some b → w.heap.size + 2 ≤ b ∧ b < Z.heap.size := fun b hb => ⟨(HRS.out.low _ hmv b hb).1, HLOW.out _ hmv b hb⟩
             have HRS3 := Lib.hid (HRS.out.changed HVK.out hu3 (fun b hb => hb))
             have HRO3 := Lib.hid (ownsRow_upd HRO.out hu3 (fun b hb hs => by have := (HRO.out.lt b hb).1; have := (hlow3 b hs).2; omega))
             have HM3 := Lib.hid (HM2.out.upd hu3 (fun hs => by have := (hlow3 _ hs).1; omega))
             have HBW3 : Hid (Below w.heap.size w z3) := HBW.out.trans (hu3.below HBW.out.size (fun b hb => by have := (hlow3 b hb).1; omega))
             have hz3 : Z.heap.size ≤ z3.heap.size := Nat.le_trans hzw hu3.size
             rw [sorted_sortK HND.out] at hrow3
             have hSl : (sortK l).length = l.length := (sortK_perm HND.out).length_eq
             have HROW3 := Lib.hid hrow3
             clear hrow3 hu3 HRS HRO HM2 HBW HVK hmv HSO HL x1
             obtain ⟨S, HS⟩ : ∃ S, Hid (S = sortK l) := ⟨_, rfl⟩
             rw [← HS.out] at hSl HROW3 HMEM HBS
             have k4 : l.length ≤ 4000 := by omega
             go_wp2
             go_loopg [88, 14] l.length (fun gk v88 v14 wr => ∃ (j : Nat) (A : Option Addr) (c : Nat), gk = l.length - j ∧ j ≤ l.length ∧ v88 = .int .i64 j ∧ v14 = .slice A (blocks F D k ++ (S.take j).map (actOf F)).length c ∧ Hid (wr.ownsRow Z.heap.size 3 1 (.slice A (blocks F D k ++ (S.take j).map (actOf F)).length c) (blocks F D k ++ (S.take j).map (actOf F)).length (ints (blocks F D k ++ (S.take j).map (actOf F)))) ∧ Hid (Upd (fun b => Z.heap.size ≤ b) z3 wr))
             case atStart =>
              refine ⟨0, A, c, rfl, Nat.zero_le _, rfl, by simp, ?_, Upd.refl _ _⟩
              have h := HRO3
              simpa using h
             case round =>
              obtain ⟨j, A, c, hgk, hj, rfl, rfl, HRO, HU⟩ := hrel
              have HGJ := Lib.hid hgk; clear hgk HRO3
              by_cases hlj : j < l.length
              · obtain ⟨r, hr⟩ : ∃ r, S[j]? = some r := ⟨S[j]'(by omega), List.getElem?_eq_getElem (by omega)⟩
                have hrm := HMEM.out r (List.mem_of_getElem? hr)
                have hr64 : In64 r := by
                 obtain ⟨x, hx, rfl⟩ := List.mem_map.1 hrm
                 exact HR.out x hx
                have hMw := HM3.out.upd HU.out (by omega)
                have lk := MapX.look lawI Tryz.underlying79 hMw (zeroI wr) hr64 (keyI hr64)
                rw [actV_of hrm] at lk
                simp only [Option.getD_some] at lk
                have hRw := ownsRow_upd HROW3.out HU.out (fun b hb hs => by have := (hlow3 b hb).2; omega)
                obtain ⟨g, rfl, hBg, hgl, hlc, hcm, hcell⟩ := ownsRow_cell hRw (by omega)
                have x2 : wr.cell? ⟨g, j, none⟩ = some (.int .i64 r) := hcell j _ (ints_get hr)
                have j0 : (j : Int) < (l.length : Int) := by omega
                have hwz := HU.out.size
                have hrl2 : (blocks F D k ++ (S.take j).map (actOf F)).length ≤ 10000 := by simp; omega
                have hzr : Z.heap.size ≤ wr.heap.size := by omega
                generalize hRL : blocks F D k ++ (S.take j).map (actOf F) = RL at HRO hrl2 ⊢
                have HRL := Lib.hid hRL; clear hRL
                have HRJ := Lib.hid hr
                clear hRw hcell hMw hr hrm
                go_wp2_with (at_builtin; refine wpList_append_oneX rfl _ _ 22 rfl 3 ii (.int .i64 0) 1 8 Tryz.underlying22 hii hiz his hib rfl (by decide) Z.heap.size _ _ _ rfl HRO.out [.int .i64 (actOf F r)] _ rfl rfl (by intro u hu; simp only [List.mem_singleton] at hu; subst hu; rfl) rfl (by unfold maxLen; omega) (by omega) hzr ?_; intro g6 c6 w6 h1 h2; refine Hid.out ?_)
                refine Lib.hid ?_
                have hnb : ∀ b, (Value.slice A RL.length c).ownBlock = some b → Z.heap.size ≤ b := fun b e => (HRO.out.lt b e).1
                have HU6 : Hid (Upd (fun b => Z.heap.size ≤ b) wr w6) := ((Upd.refl _ wr).alloc _).trans (Upd.of_grown h2) (fun b _ h => hnb b h)
                have hR6 : w6.ownsRow Z.heap.size 3 1 (.slice (some ⟨g6, 0, none⟩) (blocks F D k ++ (S.take (j + 1)).map (actOf F)).length c6) (blocks F D k ++ (S.take (j + 1)).map (actOf F)).length (ints (blocks F D k ++ (S.take (j + 1)).map (actOf F))) := by
                 rw [take_snocX HRJ.out, List.map_append, ← List.append_assoc, HRL.out]
                 rw [show (RL ++ List.map (actOf F) [r]).length = RL.length + 1 by simp, show ints (RL ++ List.map (actOf F) [r]) = ints RL ++ [.int .i64 (actOf F r)] from ints_snoc _ _]
                 exact h1
                have hlen6 : (blocks F D k ++ (S.take (j + 1)).map (actOf F)).length = RL.length + 1 := by
                 rw [take_snocX HRJ.out, List.map_append, ← List.append_assoc, HRL.out]
                 simp
                have HR6 := Lib.hid hR6
                have HL6 := Lib.hid hlen6
                clear hR6 hlen6 h1 h2 hnb lk x2
                go_wp2
                go_roundg (l.length - (j + 1))
                case measure => rw [HGJ.out]; omega
                case rel => exact ⟨j + 1, _, _, rfl, by omega, by go_num, by rw [HL6.out], HR6, HU.out.trans HU6.out (fun b _ h => h)⟩
              · obtain rfl : j = l.length := by omega
                have hST : S.take l.length = S := by rw [← hSl, List.take_length]
                rw [hST] at HRO
                rw [hST]
                clear hST HGJ hlj
                have hwz := HU.out.size
                have hrl2 : (blocks F D k ++ S.map (actOf F)).length ≤ 10000 := by simp; omega
                have hzr : Z.heap.size ≤ wr.heap.size := by omega
                have HRSW := Lib.hid (HRS3.out.upd HU.out (by omega) (fun v hv b hb hs => by have := HLOW.out v hv b hb; omega))
                have HMW := Lib.hid (HM3.out.upd HU.out (by omega))
                have HBWW : Hid (Below w.heap.size w wr) := HBW3.out.trans (HU.out.below HBW3.out.size (fun b hb => by omega))
                rw [← List.append_assoc] at HBS
                generalize blocks F D k ++ S.map (actOf F) = RL at HRO hrl2 HBS ⊢
                clear HROW3 HRS3 HM3 HBW3 HU
                go_wp2_with (at_builtin; refine wpList_append_oneX rfl _ _ 22 rfl 3 ii (.int .i64 0) 1 8 Tryz.underlying22 hii hiz his hib rfl (by decide) Z.heap.size _ _ _ rfl HRO.out [.int .i64 (-1)] _ rfl rfl (by intro u hu; simp only [List.mem_singleton] at hu; subst hu; rfl) rfl (by unfold maxLen; omega) (by omega) hzr ?_; intro g6 c6 w6 h1 h2; refine Hid.out ?_)
                refine Lib.hid ?_
                have hnb : ∀ b, (Value.slice A RL.length c).ownBlock = some b → Z.heap.size ≤ b := fun b e => (HRO.out.lt b e).1
                have HU6 : Hid (Upd (fun b => Z.heap.size ≤ b) wr w6) := ((Upd.refl _ wr).alloc _).trans (Upd.of_grown h2) (fun b _ h => hnb b h)
                have hl6 : (blocks F D (k + 1)).length = RL.length + 1 := by rw [HBS.out]; simp
                have hR6 : w6.ownsRow Z.heap.size 3 1 (.slice (some ⟨g6, 0, none⟩) (blocks F D (k + 1)).length c6) (blocks F D (k + 1)).length (ints (blocks F D (k + 1))) := by
                 rw [hl6, HBS.out, ints_snoc]
                 exact h1
                have HR6 := Lib.hid hR6
                have HL6 := Lib.hid hl6
                have HRS6 := Lib.hid (HRSW.out.upd HU6.out (by omega) (fun v hv b hb hs => by have := HLOW.out v hv b hb; omega))
                have HM6 := Lib.hid (HMW.out.upd HU6.out (by omega))
                have HB6 : Hid (Below w.heap.size w w6) := HBWW.out.trans (HU6.out.below HBWW.out.size (fun b hb => by omega))
                have hz6 : Z.heap.size ≤ w6.heap.size := Nat.le_trans hzr HU6.out.size
                clear hR6 hl6 h1 h2 hnb HU6 HRSW HMW HBWW
                go_wp2
                go_roundg (n - (k + 1))
                case measure => rw [HGK.out]; omega
                case rel => exact ⟨k + 1, _, _, rfl, by omega, by go_num, by rw [HL6.out], HR6, HM6, HRS6, HB6, hz6⟩
           · obtain rfl : k = n := by omega
             clear HGK hlt HM2 HRS
             have hT := HTB.out
             subst hT
             clear HTB
             go_wp2
             go_ret
             exact ⟨_, _, rfl, ownsRow_base HRO.out (fun g hg => by have := (HRO.out.lt g hg).1; have := HZB.out.size; omega), HBW.out⟩
     · have hT : T = [] := by rw [HT.out]; unfold traceM; rw [if_neg (fun h => h3 h.2.2.1)]
       subst hT
       have q1 : ((F.length : Int) != (D.length : Int)) = false := by simp [h1]
       have q2 : (u < 0) = False := by simp; omega
       have q3 : ((2000 : Int) < u) = True := by simp; omega
       clear h1 h2 h3 HT
       go_enter Tryz.func18, Tryz.ntmps18
       go_wp2
       go_ret
       exact ⟨none, 0, rfl, World.ownsRow_nil _ _ _ _, Below.refl _ _⟩
   · have hT : T = [] := by rw [HT.out]; unfold traceM; rw [if_neg (fun h => h2 h.2.1)]
     subst hT
     have q1 : ((F.length : Int) != (D.length : Int)) = false := by simp [h1]
     have q2 : (u < 0) = True := by simp; omega
     clear h1 h2 HT
     go_enter Tryz.func18, Tryz.ntmps18
     go_wp2
     go_ret
     exact ⟨none, 0, rfl, World.ownsRow_nil _ _ _ _, Below.refl _ _⟩
 · have hT : T = [] := by rw [HT.out]; unfold traceM; rw [if_neg (fun h => h1 h.1)]
   subst hT
   have q1 : ((F.length : Int) != (D.length : Int)) = true := by simp; omega
   go_enter Tryz.func18, Tryz.ntmps18
   go_wp2
   go_ret
   exact ⟨none, 0, rfl, World.ownsRow_nil _ _ _ _, Below.refl _ _⟩
end Go.Proofs.YtahhdjeclbagnaaGreatDoor
