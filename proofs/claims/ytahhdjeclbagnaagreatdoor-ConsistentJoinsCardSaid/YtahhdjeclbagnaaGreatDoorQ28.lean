/-
  CsW; CsX
-/
import Derived.Shelf.SlSortCmp.WholeK
import Derived.Shelf.SlSortCmp.NoneTotal
import Derived.Ground.SlsfProg
import Derived.Test.YtahhdjeclbagnaaGreatDoorQ15
import Derived.Test.YtahhdjeclbagnaaGreatDoorQ27
import Derived.Test.YtahhdjeclbagnaaGreatDoorQ26
import Derived.Test.YtahhdjeclbagnaaGreatDoorQ25
import Derived.Test.YtahhdjeclbagnaaGreatDoorQ22
namespace Go.Proofs
open Go.Shelf Go.RowKit Go.Lib Go.Sort
end Go.Proofs
namespace Go.Proofs.YtahhdjeclbagnaaGreatDoor
open Go.RowKit Go.Sort Go.Shelf
theorem isNaN_eq (x : Int) (w : World) : Calls Tryz.prog 63 #[.int .i64 x] w (fun e w' => e = .returned (.bool false) ∧ w' = w) := by
 have h : (x != x) = false := by simp
 go_enter Tryz.func63, Tryz.ntmps63
 go_wp2
 go_ret
 exact ⟨by first | rfl | simp, rfl⟩
set_option maxHeartbeats 1000000 in
theorem compare_eq (x y : Int) (w : World) : Calls Tryz.prog 44 #[.int .i64 x, .int .i64 y] w (fun e w' => e = .returned (.int .i64 (cmpI x y)) ∧ w' = w) := by
 generalize hE : cmpI x y = E
 simp only [cmpI] at hE
 repeat' (first | (replace hE := cd_t hE (by assumption)) | (replace hE := cd_f hE (by assumption)) | (replace hE := cd_eq hE; rcases hE with ⟨q, q', hE⟩ | ⟨q, q', hE⟩) | (replace hE := cd_any hE; rcases hE with ⟨q, hE⟩ | ⟨q, hE⟩) | fail)
 all_goals
  subst hE
  go_enter Tryz.func44, Tryz.ntmps44
  go_wp2_with (go_at_call 63; refine (isNaN_eq _ _).mono ?_; rintro e z ⟨rfl, rfl⟩; refine Hid.out ?_)
  refine Lib.hid ?_
  go_wp2_with (go_at_call 63; refine (isNaN_eq _ _).mono ?_; rintro e z ⟨rfl, rfl⟩; refine Hid.out ?_)
  refine Lib.hid ?_
  go_wp2
  go_ret
  exact ⟨rfl, rfl⟩
set_option maxRecDepth 100000 in
set_option maxHeartbeats 1000000 in
theorem or2_eq (g : Nat) (x y : Int) (w : World) (h0 : w.cell? ⟨g, 0, none⟩ = some (.int .i64 x)) (h1 : w.cell? ⟨g, 1, none⟩ = some (.int .i64 y)) : Calls Tryz.prog 43 #[.slice (some ⟨g, 0, none⟩) 2 2] w (fun e w' => e = .returned (.int .i64 (cond (x == 0) y x)) ∧ w' = w) := by
 generalize hE : cond (x == 0) y x = E
 cases q : (x == 0) with
 | false =>
  have q' : (x != 0) = true := by simp [bne, q]
  rw [q, cond_false] at hE
  subst hE
  go_enter Tryz.func43, Tryz.ntmps43
  go_wp2
  go_loopg [8] 0 (fun gk v8 wr => v8 = .int .i64 0 ∧ w = wr)
  case atStart => exact ⟨rfl, rfl⟩
  case round =>
   obtain ⟨rfl, rfl⟩ := hrel
   go_wp2
   go_ret
   exact ⟨rfl, rfl⟩
 | true =>
  have q' : (x != 0) = false := by simp [bne, q]
  rw [q, cond_true] at hE
  subst hE
  go_enter Tryz.func43, Tryz.ntmps43
  go_wp2
  go_loopg [8] 2 (fun gk v8 wr => ∃ j : Nat, gk = 2 - j ∧ j ≤ 2 ∧ v8 = .int .i64 j ∧ w = wr ∧ (j = 2 → y = 0))
  case atStart => exact ⟨0, rfl, by omega, rfl, rfl, fun h => by omega⟩
  case round =>
   obtain ⟨j, hgk, hj, rfl, rfl, hy⟩ := hrel
   have HGK := Lib.hid hgk; clear hgk
   rcases (by omega : j = 0 ∨ j = 1 ∨ j = 2) with rfl | rfl | rfl
   · clear hy
     go_wp2
     go_roundg 1
     case measure => have := HGK.out; omega
     case rel => exact ⟨1, by omega, by omega, by go_num, rfl, fun h => by omega⟩
   · clear hy
     cases p : (y == 0) with
     | false =>
      have p' : (y != 0) = true := by simp [bne, p]
      go_wp2
      go_ret
      exact ⟨rfl, rfl⟩
     | true =>
      have p' : (y != 0) = false := by simp [bne, p]
      have hy0 : y = 0 := by simpa using p
      have HY := Lib.hid hy0; clear hy0
      go_wp2
      go_roundg 0
      case measure => have := HGK.out; omega
      case rel => exact ⟨2, by omega, by omega, by go_num, rfl, fun _ => HY.out⟩
   · have hy0 := hy rfl
     clear hy
     subst hy0
     go_wp2
     go_ret
     exact ⟨rfl, rfl⟩
set_option maxRecDepth 100000 in
set_option maxHeartbeats 2000000 in
theorem joined1_eq (a b : KBef) (w : World) : Calls Tryz.prog 42 #[.agg #[.int .i64 a.ref, .int .i64 a.next], .agg #[.int .i64 b.ref, .int .i64 b.next]] w (fun e w' => e = .returned (.int .i64 (cmpB a b)) ∧ ∃ q os', w' = grow (w.drewN q) os') := by
 obtain ⟨ar, an⟩ := a
 obtain ⟨br, bn⟩ := b
 simp only [cmpB]
 have HO := Lib.hid (fun z : World => or2_eq z.heap.size (cmpI ar br) (cmpI an bn) (z.alloc (.cells #[.int .i64 (cmpI ar br), .int .i64 (cmpI an bn)] 3)) ((cell_of_row _ _ 0 _ _ _ (heap_alloc_new z _)).trans rfl) ((cell_of_row _ _ 1 _ _ _ (heap_alloc_new z _)).trans rfl))
 have HC1 := Lib.hid (fun W : World => compare_eq ar br W)
 have HC2 := Lib.hid (fun W : World => compare_eq an bn W)
 generalize hx : cmpI ar br = x at HO HC1 ⊢
 generalize hy : cmpI an bn = y at HO HC2 ⊢
 generalize hE : cond (x == 0) y x = E at HO ⊢
 clear hx hy hE
 go_enter Tryz.func42, Tryz.ntmps42
 go_upto_region 1 with (fail)
 have HG : Hid (∃ os, ((w.alloc (.cells #[.int .i64 ar, .int .i64 an] 61)).alloc (.cells #[.int .i64 br, .int .i64 bn] 61)) = grow w os) := ⟨_, by rw [alloc_eq_grow, alloc_eq_grow, grow_grow]⟩
 generalize hW0 : World.alloc _ _ = W0 at HG
 obtain ⟨HB, hh0, hh1⟩ := bx2 hW0; clear hW0 HB
 have k0_0 : W0.cell? ⟨w.heap.size, 0, none⟩ = some (.int .i64 ar) := (cell_of_row W0 _ 0 _ _ _ hh0).trans rfl
 have k0_1 : W0.cell? ⟨w.heap.size, 1, none⟩ = some (.int .i64 an) := (cell_of_row W0 _ 1 _ _ _ hh0).trans rfl
 have k1_0 : W0.cell? ⟨w.heap.size + 1, 0, none⟩ = some (.int .i64 br) := (cell_of_row W0 _ 0 _ _ _ hh1).trans rfl
 have k1_1 : W0.cell? ⟨w.heap.size + 1, 1, none⟩ = some (.int .i64 bn) := (cell_of_row W0 _ 1 _ _ _ hh1).trans rfl
 clear hh0 hh1
 refine wp_region_preN 10 (by simp) (by kernel_rfl) (by kernel_rfl) ?_
 simp only [List.take_succ_cons, List.take_zero, List.drop_succ_cons, List.drop_zero]
 repeat (go_big_quiet_step (first | (go_at_call_of 44 (Value.int IntKind.i64 ar); refine (HC1.out _).mono ?_; rintro e z ⟨h1, h2⟩; exact ⟨h1, _, h2⟩) | (go_at_call_of 44 (Value.int IntKind.i64 an); refine (HC2.out _).mono ?_; rintro e z ⟨h1, h2⟩; exact ⟨h1, _, h2⟩)))
 refine wpQuiet_nil ?_
 rintro _ ⟨mq, rfl⟩
 gi_wp2_with (fail)
 refine ⟨trivial, rfl, (callsIn_wide.2 (HO.out _)).mono ?_⟩
 rintro e z ⟨rfl, rfl⟩
 gi_wp2
 go_wp2
 go_ret
 obtain ⟨os, hos⟩ := HG.out
 exact ⟨rfl, mq, _, by rw [alloc_eq_grow, hos, show (grow w os).drewN mq = grow (w.drewN mq) os from rfl, grow_grow]⟩
instance : Inhabited KBef := ⟨⟨0, 0⟩⟩
theorem ltOf_cmpB (a b : KBef) : ltOf cmpB a b = decide (ltB a b) := by
 unfold ltOf cmpB cmpI ltB
 by_cases h1 : a.ref < b.ref
 · simp [h1]
 · by_cases h2 : b.ref < a.ref
   · have h3 : ¬ a.ref = b.ref := by omega
     simp [h1, h2, h3]
   · have h3 : a.ref = b.ref := by omega
     by_cases h4 : a.next < b.next
     · simp [h3, h4]
     · by_cases h5 : b.next < a.next <;> simp [h3, h4, h5]
theorem swoB : SWO (ltOf cmpB) where
 irrefl x := by rw [ltOf_cmpB]; simp [ltB_irr]
 trans x y z h1 h2 := by rw [ltOf_cmpB, decide_eq_true_eq] at *; exact ltB_trans _ _ _ h1 h2
 ntrans x y z h1 h2 := by rw [ltOf_cmpB, decide_eq_false_iff_not] at *; unfold ltB at *; omega
theorem flat_flatK (T : List KBef) : (flatK KBef.cells 2 T.toArray).toList = befCells T := by
 apply List.ext_getElem?
 intro j
 rcases Nat.lt_or_ge j (T.length * 2) with hj | hj
 · have hq : j / 2 < T.length := by omega
   have h1 := get_flat KBef.cells 2 (fun _ => rfl) T (j / 2) (j % 2) _ (List.getElem?_eq_getElem hq) (by omega)
   rw [show j / 2 * 2 + j % 2 = j by omega] at h1
   show _ = (T.flatMap KBef.cells)[j]?
   rw [h1]
   unfold flatK
   simp only [Array.toList_map, Array.toList_range, List.size_toArray, List.getElem?_map, List.getElem?_range hj, Option.map_some]
   have h2 : T.toArray[j / 2]! = T[j / 2] := by simp [hq]
   rw [h2]
   rcases Nat.mod_two_eq_zero_or_one j with h3 | h3 <;> rw [h3] <;> rfl
 · rw [List.getElem?_eq_none (by rw [Array.length_toList, size_flatK]; simpa using hj), List.getElem?_eq_none (by rw [befCells_len]; exact hj)]
theorem collectB_any {Bm mb nn : Nat} {D0 : DataW Value} (w : World) (hm : w.cell? ⟨Bm, 0, none⟩ = some (.map (some mb))) (hown : w.ownsMap Tryz.prog 61 RM mb nn D0) (hsz : Maps.size D0 ≤ 1000000) :
 Calls Tryz.prog 60 #[.func (.func 62) #[] #[.pointer (some ⟨Bm, 0, none⟩)]] w (fun e w' => ∃ (T : List KBef) (A : Option Addr) (c : Nat), e = .returned (.slice A T.length c) ∧ w'.ownsRow w.heap.size 61 2 (.slice A T.length c) T.length (befCells T) ∧ Below w.heap.size w w' ∧ T.length ≤ Maps.size D0 ∧ T.Nodup ∧ (∀ x ∈ T, InB x) ∧ ∀ x, InB x → (x ∈ T ↔ Maps.has D0 (encB x) = true)) := by
 have HA := Lib.hid (appendSeqB_any w hm hown hsz)
 go_enter Tryz.func60, Tryz.ntmps60
 go_wp2_with (go_at_call 90; refine HA.out.mono ?_; rintro e z ⟨T, v, rfl, h1, h2, h0, h3, h4, h5⟩; obtain ⟨A, c, rfl⟩ := ownsRow_form h1; refine Hid.out ?_)
 refine Lib.hid ?_
 have H0 := Lib.hid h0; clear h0
 have H1 := Lib.hid h1; clear h1
 have H2 := Lib.hid h2; clear h2
 have H3 := Lib.hid h3; clear h3
 have H4 := Lib.hid h4; clear h4
 have H5 := Lib.hid h5; clear h5
 go_wp2
 go_ret
 exact ⟨T, A, c, rfl, H1.out, H2.out, H0.out, H3.out, H4.out, H5.out⟩
theorem Src_of_own {w : World} {g cap n : Nat} {cur : Array Value} {t : TypeId} {size : Nat} {cs : List Value} (hg : w.heap[g]? = some (.cells cur t (0, 0))) (hl : cs.length = n * size) (h1 : ∀ u ∈ cs, u.oneCell' = true) (hc : ∀ j, j < cs.length → cur[j]? = cs[j]?) (hn : n ≤ cap) (hm : cap ≤ maxLen) : At w size (some ⟨g, 0, none⟩) n cap cs :=
 ⟨⟨hl, h1, fun _ => ⟨_, rfl, fun j u hj => by rw [Addr.add_lit, Nat.zero_add, cell_of_row w g j _ _ _ hg, hc j (List.getElem?_eq_some_iff.1 hj).1, hj]⟩⟩, fun e => (by cases e), hn, hm⟩
theorem sortFuncB_any (T : List KBef) (A : Option Addr) (c B : Nat) (w : World) (hown : w.ownsRow B 61 2 (.slice A T.length c) T.length (befCells T)) (hT : T.length ≤ 1000000) (hnd : T.Nodup) :
 Calls Tryz.prog 61 #[.slice A T.length c, .func (.func 42) #[] #[]] w (fun e w' => e = .returned (.tuple #[]) ∧ ∃ T' : List KBef, T'.length = T.length ∧ T'.Perm T ∧ T'.Pairwise ltB ∧ At w' 2 A T'.length c (befCells T') ∧ (∀ b off, A = some ⟨b, off, none⟩ → B ≤ b) ∧ Upd (fun k => B ≤ k) w w') := by
 obtain ⟨A', c', e', hAt, hB⟩ := ownsRow_atB hown (befCells_one T)
 obtain ⟨rfl, rfl⟩ : A = A' ∧ c = c' := by
  simp only [Value.slice.injEq] at e'
  exact ⟨e'.1, e'.2.2⟩
 rcases hown.2 with ⟨e, h0⟩ | ⟨g, cap, cur, e, hgB, hg, h1, h2, h3, h4⟩
 · obtain ⟨rfl, rfl⟩ : A = none ∧ c = 0 := by
    simp only [Value.slice.injEq] at e
    exact ⟨e.1, e.2.2⟩
   have hT0 : T = [] := List.eq_nil_of_length_eq_zero h0
   subst hT0
   have h := AnyF.slices_SortFunc_none Tryz.sortFuncB none 0 (.func (.func 42) #[] #[]) w
   change Calls Tryz.prog 61 _ _ _ at h
   refine h.mono ?_
   rintro e w' ⟨rfl, rfl⟩
   exact ⟨rfl, [], rfl, List.Perm.refl _, List.Pairwise.nil, hAt, hB, Upd.refl _ _⟩
 · obtain ⟨rfl, rfl⟩ : A = some ⟨g, 0, none⟩ ∧ c = cap := by
    simp only [Value.slice.injEq] at e
    exact ⟨e.1, e.2.2⟩
   have hcl := befCells_len T
   have hcc : ∀ j, j < T.length * 2 → cur[j]? = (befCells T)[j]? := fun j hj => by
    rw [← h4, List.getElem?_take, if_pos (by omega), Array.getElem?_toList]
   have hH : HoldsK KBef.cells 2 w g 0 T.toArray := by
    intro j hj
    rw [size_flatK] at hj
    simp only [List.size_toArray] at hj
    refine ⟨?_, by simp [World.frozen?, hg]⟩
    rw [Nat.zero_add, cell_of_row w g j _ _ _ hg, hcc j hj]
    have h5 : (flatK KBef.cells 2 T.toArray)[j]? = (befCells T)[j]? := by rw [← flat_flatK, Array.getElem?_toList]
    rw [← h5]
    have hjs : j < (flatK KBef.cells 2 T.toArray).size := by rw [size_flatK]; simpa using hj
    rw [getElem!_pos _ j hjs, Array.getElem?_eq_getElem hjs]
    rfl
   have hcon := AnyQ.slices_SortFunc Tryz.sortFuncB 2 (fun w => by kernel_rfl) (fun w => by kernel_rfl) KBef.cells (fun _ => rfl) (fun x v hv => by simp [KBef.cells] at hv; rcases hv with rfl | rfl <;> rfl) cmpB swoB 42 #[] g 0 c T.toArray w (enters_of Tryz.func42 (by kernel_rfl) rfl) (fun _ _ _ _ x y => joined1_eq x y _) hH (lt_of_heap hg) (by simp; omega)
   change Calls Tryz.prog 61 _ _ _ at hcon
   simp only [List.size_toArray] at hcon
   refine hcon.mono ?_
   rintro e w' ⟨rfl, d', n, os, hp, hs, rfl⟩
   obtain ⟨hsz, _, hperm⟩ := hp
   have hsz' : d'.toList.length = T.length := by rw [Array.length_toList, hsz]; simp
   have hpp : d'.toList.Perm T := by
    rw [Array.extract_eq_self_of_le (by rw [hsz]; simp), Array.extract_eq_self_of_le (by simp)] at hperm
    simpa using hperm
   have hnd' : d'.toList.Nodup := hpp.nodup_iff.2 hnd
   have hcd : (flatK KBef.cells 2 d').toList = befCells d'.toList := flat_flatK d'.toList
   have hgl := lt_of_heap hg
   have hg' : (sortWorldK KBef.cells 2 w g 0 n d' os).heap[g]? = some (.cells (putCells id 0 (flatK KBef.cells 2 d') cur) 61 (0, 0)) := by
    unfold sortWorldK putRowK
    rw [heap_grow_old _ _ (by simp [putRow, mapBlock]; exact hgl)]
    simp [putRow, mapBlock, Sort.ahead, Array.getElem?_modify, hg, onCells]
   refine ⟨rfl, d'.toList, hsz', hpp, ?_, ?_, hB, ?_⟩
   · rw [List.pairwise_iff_getElem]
     intro i j hi hj hij
     have h5 := hs i j (Nat.zero_le _) hij (by omega)
     rw [getElem!_pos d' j (by simpa using hj), getElem!_pos d' i (by simpa using hi), ltOf_cmpB, decide_eq_false_iff_not] at h5
     rcases ltB_tri d'.toList[i] d'.toList[j] with h6 | h6 | h6
     · exact h6
     · have := List.pairwise_iff_getElem.1 hnd' i j hi hj hij
       exact absurd h6 this
     · exact absurd h6 h5
   · refine Src_of_own hg' (befCells_len _) (befCells_one _) (fun j hj => ?_) (by omega) h2
     rw [befCells_len, hsz'] at hj
     rw [← hcd, Array.getElem?_toList]
     have hjs : j < (flatK KBef.cells 2 d').size := by rw [size_flatK, ← Array.length_toList, hsz']; exact hj
     have hjc : j < cur.size := by rw [h3]; omega
     unfold putCells
     rw [Array.getElem?_mapIdx, Array.getElem?_eq_getElem hjc, Array.getElem?_eq_getElem hjs]
     have hj2 : j < d'.size * 2 := by simpa using hjs
     simp only [Option.map_some, Nat.zero_le, true_and, Nat.zero_add, size_flatK, hj2, if_true, Nat.sub_zero, id]
     rw [getElem!_pos _ j hjs]
   · have hgr : w.grownBy (sortWorldK KBef.cells 2 w g 0 n d' os) (some g) := by
      refine ⟨rfl, rfl, rfl, by simp [sortWorldK, putRowK, putRow, mapBlock, grow, Sort.ahead], fun k hk hne => ?_⟩
      unfold sortWorldK putRowK
      rw [heap_grow_old _ _ (by simp [putRow, mapBlock]; exact hk)]
      have : g ≠ k := fun e => hne (by rw [e])
      simp [putRow, mapBlock, Sort.ahead, Array.getElem?_modify, this]
     exact Upd.mono (Upd.of_grown hgr) (fun i _ h => by injection h with h; subst h; exact hgB)
def KeysB (g : KBef → Option Value) (w : World) (e : Ending) (w' : World) : Prop :=
 ∃ (T : List KBef) (A : Option Addr) (c : Nat), e = .returned (.slice A T.length c) ∧ At w' 2 A T.length c (befCells T) ∧ (∀ b off, A = some ⟨b, off, none⟩ → w.heap.size ≤ b) ∧ Below w.heap.size w w' ∧ T.Pairwise ltB ∧ (∀ x ∈ T, InB x) ∧ ∀ x, InB x → (x ∈ T ↔ (g x).isSome = true)
set_option maxRecDepth 100000 in
set_option maxHeartbeats 2000000 in
theorem sortedFuncB_any {w : World} {b n : Nat} {g : KBef → Option Value} (h : MapX InB 61 encB w b n g) (hn : n ≤ 1000000) :
 Calls Tryz.prog 40 #[.func (.func 62) #[] #[.pointer (some ⟨w.heap.size, 0, none⟩)], .func (.func 42) #[] #[]] (w.alloc (.cells #[.map (some b)] 91)) (KeysB g (w.alloc (.cells #[.map (some b)] 91))) := by
 have hba : Below w.heap.size w (w.alloc (.cells #[.map (some b)] 91)) := Below.alloc' (Below.refl _ _) _
 have hma := h.below h.lt hba
 have hcell : (w.alloc (.cells #[.map (some b)] 91)).cell? ⟨w.heap.size, 0, none⟩ = some (.map (some b)) := (cell_of_row _ _ 0 _ _ _ (heap_alloc_new w _)).trans rfl
 generalize w.alloc (.cells #[.map (some b)] 91) = W at hma hcell ⊢
 obtain ⟨D, h1, h2, h3, h4, h5⟩ := hma
 have hsz : Maps.size D ≤ 1000000 := by omega
 have HA := Lib.hid (collectB_any W hcell h1 hsz)
 have H4 := Lib.hid h4; clear h4
 have H1 := Lib.hid h1; clear h1
 clear h3 h5 hba
 go_enter Tryz.func40, Tryz.ntmps40
 go_wp2_with (go_at_call 60; refine HA.out.mono ?_; rintro e z ⟨T, A, c, rfl, hown, hb, hl0, hnd, hin, hmem⟩; refine Hid.out ?_)
 refine Lib.hid ?_
 have hTl : T.length ≤ 1000000 := by omega
 have HS := Lib.hid (sortFuncB_any T A c W.heap.size z hown hTl hnd)
 have HB := Lib.hid hb; clear hb
 have HI := Lib.hid hin; clear hin
 have HM := Lib.hid hmem; clear hmem
 clear hown
 go_wp2_with (go_at_call 61; refine HS.out.mono ?_; rintro e z2 ⟨rfl, T2, hl, hp, hpw, hAt, hBn, hU⟩; refine Hid.out ?_)
 refine Lib.hid ?_
 have HL := Lib.hid hl; clear hl
 have HP := Lib.hid hp; clear hp
 have HPW := Lib.hid hpw; clear hpw
 have HAT := Lib.hid hAt; clear hAt
 have HBN := Lib.hid hBn; clear hBn
 have HU := Lib.hid hU; clear hU
 go_wp2
 go_ret
 refine ⟨T2, A, c, by rw [HL.out]; rfl, HAT.out, HBN.out, HB.out.trans (HU.out.below HB.out.size (fun k hk => hk)), HPW.out, fun x hx => HI.out x (HP.out.mem_iff.1 hx), fun x hx => ?_⟩
 rw [HP.out.mem_iff, HM.out x hx, H4.out x hx]
end Go.Proofs.YtahhdjeclbagnaaGreatDoor
namespace Go.Proofs.YtahhdjeclbagnaaGreatDoor
open Go.RowKit Go.Shelf
theorem same_none {L : List KFact} {x : KFact} (h : look L x.ref = none) : SameP (L ++ [x]) ↔ SameP L := by
 have hn : ∀ y ∈ L, y.ref ≠ x.ref := by
  rcases look_is L x.ref with ⟨_, h2⟩ | ⟨z, h2, _⟩
  · exact h2
  · rw [h] at h2; cases h2
 constructor
 · exact fun hs a ha b hb e => hs a (List.mem_append_left _ ha) b (List.mem_append_left _ hb) e
 · intro hs a ha b hb e
   rcases List.mem_append.1 ha with h1 | h1 <;> rcases List.mem_append.1 hb with h2 | h2
   · exact hs a h1 b h2 e
   · rw [List.mem_singleton.1 h2] at e; exact absurd e (hn a h1)
   · rw [List.mem_singleton.1 h1] at e; exact absurd e.symm (hn b h2)
   · rw [List.mem_singleton.1 h1, List.mem_singleton.1 h2]
theorem same_some {L : List KFact} {x y : KFact} (h : look L x.ref = some y) : SameP (L ++ [x]) ↔ (SameP L ∧ y.act = x.act) := by
 have hl : IsLook L x.ref y := by
  rcases look_is L x.ref with ⟨h1, _⟩ | ⟨z, h2, h3⟩
  · rw [h] at h1; cases h1
  · rw [h] at h2; cases h2; exact h3
 obtain ⟨u, hu, e1, e2⟩ := hl.act
 constructor
 · exact fun hs => ⟨fun a ha b hb e => hs a (List.mem_append_left _ ha) b (List.mem_append_left _ hb) e, by rw [← e2]; exact hs u (List.mem_append_left _ hu) x (by simp) e1⟩
 · rintro ⟨hs, ha⟩ a h1 b h2 e
   have key : ∀ z ∈ L, z.ref = x.ref → z.act = x.act := fun z hz hr => by rw [← ha, ← e2]; exact hs z hz u hu (hr.trans e1.symm)
   rcases List.mem_append.1 h1 with h1 | h1 <;> rcases List.mem_append.1 h2 with h2 | h2
   · exact hs a h1 b h2 e
   · rw [List.mem_singleton.1 h2] at e ⊢; exact key a h1 e
   · rw [List.mem_singleton.1 h1] at e ⊢; exact (key b h2 e.symm).symm
   · rw [List.mem_singleton.1 h1, List.mem_singleton.1 h2]
theorem look_isSome {L : List KFact} {r : Int} : (look L r).isSome = true ↔ ∃ x ∈ L, x.ref = r := by
 rcases look_is L r with ⟨h1, h2⟩ | ⟨z, h1, h2⟩
 · rw [h1]
   simp only [Option.isSome_none, Bool.false_eq_true, false_iff]
   rintro ⟨x, hx, e⟩
   exact h2 x hx e
 · rw [h1]
   obtain ⟨x, hx, e, _⟩ := h2.act
   simp only [Option.isSome_some, true_iff]
   exact ⟨x, hx, e⟩
theorem insK_len (r : Int) : ∀ l : List Int, (insK r l).length ≤ l.length + 1
 | [] => by simp [insK]
 | k :: l => by
  unfold insK
  split
  · simp
  · split
    · simp
    · have := insK_len r l
      simp only [List.length_cons]
      omega
theorem keysOf_len (L : List KFact) : (keysOf L).length ≤ L.length := by
 induction L using snocInd with
 | h0 => simp [keysOf]
 | h1 L x ih => rw [keysOf_snoc, List.length_append, List.length_singleton]; have := insK_len x.ref (keysOf L); omega
theorem joinedF_len (L : List KFact) : (joinedF L).length = (keysOf L).length := by rw [← joinedF_refs, List.length_map]
theorem nodup_length_le {α : Type} [DecidableEq α] : ∀ {l1 l2 : List α}, l1.Nodup → (∀ x ∈ l1, x ∈ l2) → l1.length ≤ l2.length
 | [], _, _, _ => Nat.zero_le _
 | a :: l1, l2, h, hs => by
  rw [List.nodup_cons] at h
  have ha : a ∈ l2 := hs a (by simp)
  have h1 := nodup_length_le (l1 := l1) (l2 := l2.erase a) h.2 (fun x hx => (List.mem_erase_of_ne (fun e => h.1 (by rw [← e]; exact hx))).2 (hs x (List.mem_cons_of_mem _ hx)))
  rw [List.length_erase_of_mem ha] at h1
  have := List.length_pos_of_mem ha
  rw [List.length_cons]
  omega
instance : DecidableEq KBef := fun a b => by
 obtain ⟨a1, a2⟩ := a
 obtain ⟨b1, b2⟩ := b
 exact decidable_of_iff (a1 = b1 ∧ a2 = b2) (by simp)
theorem orders_len {O OO : List KBef} (h : OrdersOf O OO) : OO.length ≤ O.length :=
 nodup_length_le (List.Pairwise.imp (S := fun a b => a ≠ b) (fun {a b} hl e => ltB_irr a (by rw [← e] at hl; exact hl)) h.1) (fun x hx => (h.2 x).1 hx)
def factV (x : KFact) : Value := .agg x.cells.toArray
def lookV (L : List KFact) (r : Int) : Option Value := (look L r).map factV
def hasV (O : List KBef) (b : KBef) : Option Value := if b ∈ O then some (.bool true) else none
theorem lookV_none {L : List KFact} {x : KFact} (h : look L x.ref = none) (r : Int) : (if r = x.ref then some (factV x) else lookV L r) = lookV (L ++ [x]) r := by
 unfold lookV
 rw [look_snoc]
 unfold lookStep
 by_cases e : r = x.ref
 · rw [if_pos e, if_pos e.symm, e, h]; rfl
 · rw [if_neg e, if_neg (fun h => e h.symm)]
theorem lookV_some {L : List KFact} {x y : KFact} (h : look L x.ref = some y) (r : Int) : (if r = x.ref then some (factV (mergeF y x)) else lookV L r) = lookV (L ++ [x]) r := by
 unfold lookV
 rw [look_snoc]
 unfold lookStep
 by_cases e : r = x.ref
 · rw [if_pos e, if_pos e.symm, e, h]; rfl
 · rw [if_neg e, if_neg (fun h => e h.symm)]
theorem hasV_put (O : List KBef) (x b : KBef) : (if b = x then some (Value.bool true) else hasV O b) = hasV (O ++ [x]) b := by
 unfold hasV
 by_cases e : b = x
 · rw [if_pos e, if_pos (by simp [e])]
 · rw [if_neg e]
   by_cases h : b ∈ O
   · rw [if_pos h, if_pos (List.mem_append_left _ h)]
   · rw [if_neg h, if_neg (fun k => by rcases List.mem_append.1 k with k | k; exact h k; exact e (List.mem_singleton.1 k))]
theorem MapX.congr {α : Type} {P : α → Prop} {K : TypeId} {enc : α → Lit} {w : World} {b n : Nat} {g g' : α → Option Value} (h : MapX P K enc w b n g) (e : ∀ a, g a = g' a) : MapX P K enc w b n g' := by rw [← show g = g' from funext e]; exact h
theorem MapX.empty {α : Type} {P : α → Prop} {K : TypeId} {enc : α → Lit} {w : World} {b : Nat} (h : w.heap[b]? = some (.map #[] 0)) : MapX P K enc w b 0 (fun _ => none) := by
 obtain ⟨D, ⟨es, c, h1, h2⟩, h3⟩ := MapX.made (P := P) (K := K) (enc := enc) w
 rw [heap_alloc_new w (.map #[] 0)] at h1
 cases h1
 exact ⟨D, ⟨#[], 0, h, h2⟩, h3⟩
theorem mapTurned_updX {w w' : World} {b : Nat} (h : w.mapTurned w' b) : Upd (fun k => k = b) w w' := by
 have hg := h.grown
 exact ⟨hg.os, hg.tape, hg.output, hg.size, fun k hk hn => hg.block k hk (fun e => by injection e with e; first | exact hn e | exact hn e.symm)⟩
theorem own_of_row {w : World} {B : Nat} {e : TypeId} {size n c : Nat} {A : Option Addr} {xs : List Value} (h : w.ownsRow B e size (.slice A n c) n xs) : (n = 0 ∧ A = none ∧ c = 0) ∨ ∃ g, A = some ⟨g, 0, none⟩ ∧ B ≤ g ∧ Own w e g xs := by
 rcases h.2 with ⟨h1, h2⟩ | ⟨g, cap, cur, h1, h2, h3, h4, h5, h6, h7⟩
 · simp only [Value.slice.injEq] at h1
   exact .inl ⟨h2, h1.1, h1.2.2⟩
 · simp only [Value.slice.injEq] at h1
   refine .inr ⟨g, h1.1, h2, cur.toList.drop (n * size), ?_⟩
   rw [← h7, List.take_append_drop]
   exact h3
theorem wpList_append_oneX {P : Program} {W : World} {ops : Array Oper} {rest : List Oper} {o : Oper} {a : Act} {Q : Exit → Act → World → Prop}
 (hg : o.guard = none) (s x : Operand) (T : TypeId) (hop : o.op = Op.call { callee := Callee.builtin Builtin.append, args := #[s, x], argTypes := #[T, T] })
 (e : TypeId) (i : TypeInfo) (z : Value) (size bytes : Nat) (ht : P.underlying T = some (.slice e)) (hi : P.info? e = some i) (hz : i.zero = some z) (hsize : i.size = size) (hby : i.bytes = bytes) (hzs : z.cells.size = size) (h0 : 0 < size)
 (B : Nat) (v : Value) (n : Nat) (xs : List Value) (hs : a.eval s = v) (hown : W.ownsRow B e size v n xs) (cs : List Value) (arr : Array Value) (harr : arr = cs.toArray) (hcs : cs.length = size) (h1 : ∀ u ∈ cs, u.oneCell' = true)
 (hx : a.eval x = .slice (some ⟨W.heap.size, 0, none⟩) 1 1) (hlen : n + 1 ≤ maxLen) (hb : (n + 1) * bytes ≤ 140737488355328) (hBW : B ≤ W.heap.size)
 (hK : ∀ g' c' w', w'.ownsRow B e size (.slice (some ⟨g', 0, none⟩) (n + 1) c') (n + 1) (xs ++ cs) → (W.alloc (.cells arr e)).grownBy w' v.ownBlock → wpList P ops Q rest (a.put o.dst (.slice (some ⟨g', 0, none⟩) (n + 1) c')) w') :
 wpList P ops Q (o :: rest) a (W.alloc (.cells arr e)) := by
 subst harr
 refine wpList_append_own _ hg s x T hop B e i z size bytes ht hi hz hsize hby hzs h0 v n xs hs (World.ownsRow.alloc hown _) ⟨W.heap.size, 0, none⟩ 1 1 cs hx (by omega)
  (fun j u hj => by
   rw [Addr.add_lit, cell_of_row _ _ (0 + j) _ _ _ (heap_alloc_new W _)]
   simpa using hj) h1 hlen hb (by simp; omega) ?_
 intro v' w' hown' hgrow hnil
 rcases hown'.2 with ⟨e, _⟩ | ⟨g, cap, cur, rfl, _⟩
 · have := (hnil.1 e).2; omega
 · exact hK g cap w' hown' hgrow
theorem facts_snoc {L : List KFile} {k : Nat} {f : KFile} (h : L[k]? = some f) : (L.take (k + 1)).flatMap KFile.facts = (L.take k).flatMap KFile.facts ++ f.facts := by
 rw [List.take_add_one, h, List.flatMap_append]
 simp
theorem orders_snoc {L : List KFile} {k : Nat} {f : KFile} (h : L[k]? = some f) : (L.take (k + 1)).flatMap KFile.orders = (L.take k).flatMap KFile.orders ++ f.orders := by
 rw [List.take_add_one, h, List.flatMap_append]
 simp
theorem take_snocX {α : Type} {l : List α} {k : Nat} {x : α} (h : l[k]? = some x) : l.take (k + 1) = l.take k ++ [x] := by rw [List.take_add_one, h]; rfl
end Go.Proofs.YtahhdjeclbagnaaGreatDoor
