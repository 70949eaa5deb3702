/-
  slices.Insert at a queue of flights, one element put in.
-/
import Derived.Test.YtfpiiehdmdmoeaaRows
import Derived.Test.YtfpiiehdmdmoeaaMem
namespace Go.Proofs.Ytfpiiehdmdmoeaa
open Go.RowKit

theorem info66 : (Try.prog.info? 66).map (fun i => (i.zero, i.size, i.bytes)) = some (some (.agg #[.int .i64 0, .int .i64 0, .string ByteArray.empty, .int .i64 0]), 4, 40) := by kernel_rfl

set_option maxHeartbeats 400000 in
/-- at the end: append -/
theorem insert_end (v : Value) (n : Nat) (xs news : List Value) (blk : Option Nat) (ad : Addr) (w : World) (hrow : RowAt w 66 4 v n xs blk) (hsrc : Src w 4 (some ad) 1 news) (hn : n ≤ 5000) :
    Calls Try.prog 31 #[v, .int .i64 n, .slice (some ad) 1 1] w (RetRow 66 4 (n + 1) (xs ++ news) blk w) := by
  obtain ⟨i0, hi0, hz0, hz1, hz2⟩ := info_parts info66
  obtain ⟨v', w', blk', hr, h1, h2, h3⟩ := run_append_row (P := Try.prog) w 64 64 66 i0 _ 4 40 Try.underlying64 hi0 hz0 hz1 hz2 rfl v n xs blk hrow (some ad) 1 1 news hsrc (by unfold maxLen; omega) (by omega)
  obtain ⟨A, cap, rfl, hnc, hcm⟩ := hrow.val
  unfold maxLen at hcm
  have HR := Lib.hid hr; clear hr
  have H1 := Lib.hid h1; clear h1
  have H3 := Lib.hid h3; clear h3
  have H0 := Lib.hid hrow; clear hrow
  have HS := Lib.hid hsrc; clear hsrc
  have e1 : ((n : Int) == (n : Int)) = true := by simp
  go_enter Try.func31, Try.ntmps31
  go_wp2_with (at_builtin; refine wpList_append_run rfl _ _ _ _ rfl _ _ rfl rfl HR.out ?_)
  all_goals
    go_ret
    exact ⟨v', blk', rfl, H1.out, h2, H3.out⟩

/-- The three runs of the road that grows. -/
theorem grow_runs (g off n i : Nat) (xs news : List Value) (ad : Addr) (w : World) (hrow : RowAt w 66 4 (.slice (some ⟨g, off, none⟩) n n) n xs (some g)) (hsrc : Src w 4 (some ad) 1 news) (h1 : ∀ u ∈ xs, u.oneCell' = true) (hi : i < n) (hn : n ≤ 5000) (had : ad.block < w.heap.size) :
    ∃ w1 w2 w3 c, (Builtin.append_ #[64, 3] 64 #[.slice (some ⟨g, off, none⟩) i n, .int .i64 ((n : Int) + 1 - i)]).run Try.prog w = .ok (.slice (some ⟨w.heap.size, 0, none⟩) (n + 1) c) w1 ∧
      (Builtin.copy_ #[64, 64] 3 #[.slice (some ⟨w.heap.size, i * 4, none⟩) (n + 1 - i) (c - i), .slice (some ad) 1 1]).run Try.prog w1 = .ok (.int .i64 1) w2 ∧
      (Builtin.copy_ #[64, 64] 3 #[.slice (some ⟨w.heap.size, (i + 1) * 4, none⟩) (n - i) (c - (i + 1)), .slice (some ⟨g, off + i * 4, none⟩) (n - i) (n - i)]).run Try.prog w2.drew = .ok (.int .i64 ((n : Int) - i)) w3 ∧
      n + 1 ≤ c ∧ c ≤ maxLen ∧
      RowAt w3 66 4 (.slice (some ⟨w.heap.size, 0, none⟩) (n + 1) c) (n + 1) (xs.take (i * 4) ++ news ++ xs.drop (i * 4)) (some w.heap.size) ∧ Upd (fun _ => False) w w3 := by
  obtain ⟨i0, hi0, hz0, hz1, hz2⟩ := info_parts info66
  obtain ⟨g', off', cap', hb, hv, _, _, hgl, hcell, _⟩ := hrow.form (by omega)
  injection hb with hb
  subst hb
  injection hv with e1 e2 e3
  injection e1 with e1
  injection e1 with _ e4
  subst e4
  have hxl := hrow.1
  obtain ⟨hnl, hn1, hns⟩ := hsrc
  obtain ⟨ad', e5, hnc⟩ := hns (by omega)
  injection e5 with e5
  subst e5
  have holds : ∀ j v, (xs.take (i * 4))[j]? = some v → w.cell? ((⟨g, off, none⟩ : Addr).add j) = some v := by
    intro j u hu
    rw [List.getElem?_take] at hu
    split at hu
    · rw [Addr.add_lit, hcell j (by omega), hu]
    · cases hu
  have hr1 := run_append_zeros_grow (P := Try.prog) w 64 3 64 66 i0 _ .i64 .i64 Try.underlying64 Try.underlying3 hi0 hz0 ⟨g, off, none⟩ i n (xs.take (i * 4)) (by rw [List.length_take, hz1]; omega) holds (n + 1 - i) (by omega) (by omega) (by omega) (by omega)
    (growslice_fits (by omega) (by rw [hz2]; omega)) (by rw [hz2]; omega)
  have en : i + (n + 1 - i) = n + 1 := by omega
  rw [en] at hr1
  have ei : ((n + 1 - i : Nat) : Int) = (n : Int) + 1 - i := by omega
  rw [ei] at hr1
  have hge := grownCap_ge w (n + 1) n 66
  have hcm := grownCap_le_maxLen w (n + 1) n 66 (by unfold maxLen; omega)
  generalize grownCap w (n + 1) n 66 = c at hr1 hge hcm
  generalize hC : ((xs.take (i * 4)).toArray ++ Builtin.zeroCells (Value.agg #[.int .i64 0, .int .i64 0, .string ByteArray.empty, .int .i64 0]).cells (n + 1 - i) ++ Builtin.zeroCells (Value.agg #[.int .i64 0, .int .i64 0, .string ByteArray.empty, .int .i64 0]).cells (c - (n + 1))) = C at hr1
  have hz4 : (Value.agg #[.int .i64 0, .int .i64 0, .string ByteArray.empty, .int .i64 0]).cells.size = 4 := rfl
  have hCs : C.size = c * 4 := by
    rw [← hC]
    simp only [Array.size_append, List.size_toArray, size_zeroCells, hz4, List.length_take]
    omega
  have hCt : C.toList.take (i * 4) = xs.take (i * 4) := by
    rw [← hC]
    simp only [Array.toList_append, List.append_assoc]
    rw [List.take_append_of_le_length (by simp; omega), List.take_of_length_le (by simp; omega)]
  have hg1 : (w.drew.alloc (.cells C 66)).heap[w.heap.size]? = some (.cells C 66 (0, 0)) := heap_alloc_new w.drew _
  have hcell1 : ∀ (p : Addr), p.block < w.heap.size → (w.drew.alloc (.cells C 66)).cell? p = w.cell? p := fun p hp => World.cell?_of_block (w := w) (Below.heap_alloc w.drew _ _ hp)
  have hr2 := run_copy_rowN (P := Try.prog) (w.drew.alloc (.cells C 66)) 64 64 3 66 i0 Try.underlying64 hi0 w.heap.size (i * 4) (n + 1 - i) (c - i) ad 1 1 C 66 news 1 (by omega) hg1
    (by rw [hnl, hz1]) (fun j u hu => by rw [hcell1 _ (by rw [show (ad.add j).block = ad.block by unfold Addr.add; split <;> rfl]; exact had)]; exact hnc j u hu) (by omega) hn1
  have hnews4 : news.length = 4 := by omega
  generalize hC2 : (C.toList.take (i * 4) ++ news ++ C.toList.drop (i * 4 + news.length)).toArray = C2 at hr2
  have hC2s : C2.size = c * 4 := by
    rw [← hC2]
    simp only [List.size_toArray, List.length_append, List.length_take, List.length_drop, Array.length_toList]
    omega
  have hC2t : C2.toList.take ((i + 1) * 4) = xs.take (i * 4) ++ news := by
    rw [← hC2, hCt]
    rw [List.take_append_of_le_length (by simp; omega), List.take_of_length_le (by simp; omega)]
  have hg2 : ((w.drew.alloc (.cells C 66)).setRow w.heap.size C2).heap[w.heap.size]? = some (.cells C2 66 (0, 0)) := setRow_heap _ _ _ _ _ _ hg1
  have hu2 : Upd (fun _ => False) w ((w.drew.alloc (.cells C 66)).setRow w.heap.size C2) := (((Upd.refl _ w).drew).alloc _).setRow (.inr (Nat.le_refl _)) _
  generalize (w.drew.alloc (.cells C 66)).setRow w.heap.size C2 = w2 at hr2 hg2 hu2
  have hcell2 : ∀ j, j < n * 4 → w2.drew.cell? ⟨g, off + j, none⟩ = xs[j]? := fun j hj => (World.cell?_of_block (w := w) (a := ⟨g, off + j, none⟩) (hu2.block g hgl (by simp))).trans (hcell j hj)
  have hr3 := run_copy_rowN (P := Try.prog) w2.drew 64 64 3 66 i0 Try.underlying64 hi0 w.heap.size ((i + 1) * 4) (n - i) (c - (i + 1)) ⟨g, off + i * 4, none⟩ (n - i) (n - i) C2 66 (xs.drop (i * 4)) (n - i) (by omega) hg2
    (by rw [List.length_drop, hz1]; omega) (fun j u hu => by
      rw [List.getElem?_drop] at hu
      have hj : i * 4 + j < xs.length := (List.getElem?_eq_some_iff.1 hu).1
      rw [Addr.add_lit, Nat.add_assoc, hcell2 _ (by omega), hu]) (by rw [List.length_drop]; omega) (fun v hv => h1 v (List.mem_of_mem_drop hv))
  simp only [goInt] at hr3
  rw [show ((n - i : Nat) : Int) = (n : Int) - i by omega] at hr3
  refine ⟨_, _, _, c, hr1, hr2, hr3, hge, hcm, ?_, (hu2.drew).setRow (.inr (Nat.le_refl _)) _⟩
  · refine ⟨by simp only [List.length_append, List.length_take, List.length_drop]; omega, .inr ⟨w.heap.size, 0, c, _, rfl, rfl, setRow_heap _ _ _ _ _ _ hg2, hge, hcm, ?_, ?_⟩⟩
    · simp only [List.size_toArray, List.length_append, List.length_take, List.length_drop, Array.length_toList]
      omega
    · rw [hC2t, List.drop_zero, List.take_append_of_le_length (by simp only [List.length_append, List.length_take, List.length_drop]; omega), List.take_of_length_le (by simp only [List.length_append, List.length_take, List.length_drop]; omega)]

set_option maxHeartbeats 400000 in
theorem insert_grow (g off n i : Nat) (xs news : List Value) (ad : Addr) (w : World) (hrow : RowAt w 66 4 (.slice (some ⟨g, off, none⟩) n n) n xs (some g)) (hsrc : Src w 4 (some ad) 1 news) (h1 : ∀ u ∈ xs, u.oneCell' = true) (hi : i < n) (hn : n ≤ 5000) (had : ad.block < w.heap.size) :
    Calls Try.prog 31 #[.slice (some ⟨g, off, none⟩) n n, .int .i64 i, .slice (some ad) 1 1] w (RetRow 66 4 (n + 1) (xs.take (i * 4) ++ news ++ xs.drop (i * 4)) (some g) w) := by
  obtain ⟨w1, w2, w3, c, hr1, hr2, hr3, hge, hcm, hrow3, hu3⟩ := grow_runs g off n i xs news ad w hrow hsrc h1 hi hn had
  unfold maxLen at hcm
  have HR1 := Lib.hid hr1; clear hr1
  have HR2 := Lib.hid hr2; clear hr2
  have HR3 := Lib.hid hr3; clear hr3
  have H1 := Lib.hid hrow3; clear hrow3
  have H0 := Lib.hid hrow; clear hrow
  have HS := Lib.hid hsrc; clear hsrc
  have HX := Lib.hid h1; clear h1
  have hci : ¬ (c = i) := by omega
  have hni : ¬ (n = i) := by omega
  have hci1 : ¬ (c = i + 1) := by omega
  have hin : i ≤ n := by omega
  generalize xs.take (i * 4) ++ news ++ xs.drop (i * 4) = ys at H1 ⊢
  go_enter Try.func31, Try.ntmps31
  go_wp2_with (first | (at_builtin; refine wpList_append_run rfl _ _ _ _ rfl _ _ rfl rfl HR1.out ?_) | (refine wpList_copy_run (o := ⟨some 45, _, _, _, _, _⟩) (by rfl) (.tmp 43) (.tmp 44) 64 64 (by rfl) _ _ (by rfl) (by rfl) HR2.out ?_))
  have hwr : IntKind.i64.wrap ((i : Int) + 1) = (i : Int) + 1 := IntWalk.i64_in _ (by omega)
  have hw0 : (0 : Int) ≤ (i : Int) + 1 := by omega
  have hwn : ((i : Int) + 1).toNat = i + 1 := by omega
  have hwl : (i : Int) + 1 ≤ (n : Int) + 1 := by omega
  go_region_law ((refine step_copy_run (o := ⟨some 54, _, _, _, _, _⟩) (by rfl) (.tmp 50) (.tmp 53) 64 64 (by rfl) (.slice (some ⟨w.heap.size, (i + 1) * 4, none⟩) (n - i) (c - (i + 1))) (.slice (some ⟨g, off + i * 4, none⟩) (n - i) (n - i)) (by simp [Act.eval, Act.put]) (by simp [Act.eval, Act.put]) HR3.out ?_))
  go_wp2
  go_ret
  exact ⟨_, _, rfl, H1.out, hu3.mono (fun _ _ h => h.elim), .inr ⟨_, rfl, Nat.le_refl _⟩⟩
theorem inplace_list {α : Type} (A X1 X2 R N : List α) (m : Nat) (hN : N.length = m) (hR : m ≤ R.length) :
    (((A ++ X1 ++ X2 ++ R).take (A.length + X1.length + m) ++ X2 ++ (A ++ X1 ++ X2 ++ R).drop (A.length + X1.length + m + X2.length)).take (A.length + X1.length) ++ N ++
      ((A ++ X1 ++ X2 ++ R).take (A.length + X1.length + m) ++ X2 ++ (A ++ X1 ++ X2 ++ R).drop (A.length + X1.length + m + X2.length)).drop (A.length + X1.length + N.length)) = A ++ X1 ++ N ++ X2 ++ R.drop m := by
  subst hN
  have hl : ((A ++ X1 ++ X2 ++ R).take (A.length + X1.length + N.length)).length = A.length + X1.length + N.length := by
    rw [List.length_take]
    simp only [List.length_append]
    omega
  have h1 : ((A ++ X1 ++ X2 ++ R).take (A.length + X1.length + N.length) ++ X2 ++ (A ++ X1 ++ X2 ++ R).drop (A.length + X1.length + N.length + X2.length)).take (A.length + X1.length) = A ++ X1 := by
    rw [List.append_assoc _ X2, List.take_append_of_le_length (by rw [hl]; omega), List.take_take, Nat.min_eq_left (by omega), List.append_assoc (A ++ X1), List.take_append_of_le_length (by simp), List.take_of_length_le (by simp)]
  have h2 : ((A ++ X1 ++ X2 ++ R).take (A.length + X1.length + N.length) ++ X2 ++ (A ++ X1 ++ X2 ++ R).drop (A.length + X1.length + N.length + X2.length)).drop (A.length + X1.length + N.length) = X2 ++ R.drop N.length := by
    rw [List.append_assoc _ X2, List.drop_append, hl, Nat.sub_self, List.drop_of_length_le (by rw [hl]; omega), List.nil_append, List.drop_zero]
    congr 1
    rw [List.drop_append, List.drop_of_length_le (by simp only [List.length_append]; omega), List.nil_append]
    congr 1
    simp only [List.length_append]
    omega
  rw [h1, h2]
  simp only [List.append_assoc]

theorem row_parts {xs : List Value} {cur : Array Value} {off n i : Nat} (htake : (cur.toList.drop off).take (n * 4) = xs) :
    cur.toList = cur.toList.take off ++ xs.take (i * 4) ++ xs.drop (i * 4) ++ cur.toList.drop (off + n * 4) := by
  rw [List.append_assoc (cur.toList.take off), List.take_append_drop, ← htake, List.append_assoc, ← List.drop_drop, List.take_append_drop, List.take_append_drop]

theorem place_runs (g off n i cap : Nat) (xs news : List Value) (ad : Addr) (w : World) (hrow : RowAt w 66 4 (.slice (some ⟨g, off, none⟩) n cap) n xs (some g)) (hsrc : Src w 4 (some ad) 1 news) (h1 : ∀ u ∈ xs, u.oneCell' = true) (hi : i < n) (hn : n + 1 ≤ cap) (had : ad.block < w.heap.size) (hne : ad.block ≠ g) :
    ∃ w1 w2, (Builtin.copy_ #[64, 64] 3 #[.slice (some ⟨g, off + (i + 1) * 4, none⟩) (n - i) (cap - (i + 1)), .slice (some ⟨g, off + i * 4, none⟩) (n + 1 - i) (cap - i)]).run Try.prog w.drew = .ok (.int .i64 ((n : Int) - i)) w1 ∧
      (Builtin.copy_ #[64, 64] 3 #[.slice (some ⟨g, off + i * 4, none⟩) (n + 1 - i) (cap - i), .slice (some ad) 1 1]).run Try.prog w1 = .ok (.int .i64 1) w2 ∧
      RowAt w2 66 4 (.slice (some ⟨g, off, none⟩) (n + 1) cap) (n + 1) (xs.take (i * 4) ++ news ++ xs.drop (i * 4)) (some g) ∧ Upd (fun k => some g = some k) w w2 := by
  obtain ⟨i0, hi0, hz0, hz1, hz2⟩ := info_parts info66
  rcases hrow.2 with ⟨h0, _, _⟩ | ⟨g', off', cap', cur, hb, hv, hg, hnc, hcm, hcs, htake⟩
  · cases h0
  injection hb with hb
  subst hb
  injection hv with e1 e2 e3
  injection e1 with e1
  injection e1 with _ e4
  subst e4 e3
  obtain ⟨_, _, _, hb, hv, _, _, hgl, hcell, _⟩ := hrow.form (by omega)
  injection hb with hb
  subst hb
  injection hv with e1 e2 e3
  injection e1 with e1
  injection e1 with _ e4
  subst e4
  have hxl := hrow.1
  obtain ⟨hnl, hn1, hns⟩ := hsrc
  obtain ⟨ad', e5, hnw⟩ := hns (by omega)
  injection e5 with e5
  subst e5
  have hnews4 : news.length = 4 := by omega
  have hr1 := run_copy_rowN (P := Try.prog) w.drew 64 64 3 66 i0 Try.underlying64 hi0 g (off + (i + 1) * 4) (n - i) (cap - (i + 1)) ⟨g, off + i * 4, none⟩ (n + 1 - i) (cap - i) cur 66 (xs.drop (i * 4)) (n - i) (by omega) hg
    (by rw [List.length_drop, hz1]; omega) (fun j u hu => by
      rw [List.getElem?_drop] at hu
      have hj : i * 4 + j < xs.length := (List.getElem?_eq_some_iff.1 hu).1
      rw [Addr.add_lit, Nat.add_assoc]
      exact (hcell _ (by omega)).trans hu) (by rw [List.length_drop]; omega) (fun v hv => h1 v (List.mem_of_mem_drop hv))
  simp only [goInt] at hr1
  rw [show ((n - i : Nat) : Int) = (n : Int) - i by omega] at hr1
  generalize hC : (cur.toList.take (off + (i + 1) * 4) ++ xs.drop (i * 4) ++ cur.toList.drop (off + (i + 1) * 4 + (xs.drop (i * 4)).length)) = C at hr1
  have hCl : C.length = cur.size := by
    rw [← hC]
    simp only [List.length_append, List.length_take, List.length_drop, Array.length_toList]
    omega
  have hg1 : (w.drew.setRow g C.toArray).heap[g]? = some (.cells C.toArray 66 (0, 0)) := setRow_heap _ _ _ _ _ _ hg
  have hu1 : Upd (fun k => some g = some k) w (w.drew.setRow g C.toArray) := ((Upd.refl (fun k => some g = some k) w).drew).setRow (.inl rfl) _
  generalize w.drew.setRow g C.toArray = w1 at hr1 hg1 hu1
  have hr2 := run_copy_rowN (P := Try.prog) w1 64 64 3 66 i0 Try.underlying64 hi0 g (off + i * 4) (n + 1 - i) (cap - i) ad 1 1 C.toArray 66 news 1 (by omega) hg1
    (by rw [hnl, hz1]) (fun j u hu => by
      have hb : (ad.add j).block = ad.block := by unfold Addr.add; split <;> rfl
      rw [World.cell?_of_block (w := w) (a := ad.add j) (hu1.block _ (by rw [hb]; exact had) (by rw [hb]; simpa using fun h => hne h.symm))]
      exact hnw j u hu) (by simp; omega) hn1
  have hfin : (C.take (off + i * 4) ++ news ++ C.drop (off + i * 4 + news.length)) = cur.toList.take off ++ xs.take (i * 4) ++ news ++ xs.drop (i * 4) ++ (cur.toList.drop (off + n * 4)).drop 4 := by
    have hA : (cur.toList.take off).length = off := by rw [List.length_take, Array.length_toList]; omega
    have hX : (xs.take (i * 4)).length = i * 4 := by rw [List.length_take]; omega
    have h := inplace_list (cur.toList.take off) (xs.take (i * 4)) (xs.drop (i * 4)) (cur.toList.drop (off + n * 4)) news 4 hnews4 (by rw [List.length_drop, Array.length_toList]; omega)
    rw [← row_parts htake, hA, hX] at h
    rw [← h, ← hC, show off + (i + 1) * 4 = off + i * 4 + 4 by omega]
  rw [hfin] at hr2
  refine ⟨w1, _, hr1, hr2, ⟨?_, .inr ⟨g, off, cap, _, rfl, rfl, setRow_heap _ _ _ _ _ _ hg1, hn, hcm, ?_, ?_⟩⟩, hu1.trans ((Upd.refl (fun k => some g = some k) w1).setRow (.inl rfl) _) (fun _ _ h => h)⟩
  · simp only [List.length_append, List.length_take, List.length_drop]; omega
  · simp only [List.size_toArray, List.length_append, List.length_take, List.length_drop, Array.length_toList]
    omega
  · have hA : (cur.toList.take off).length = off := by rw [List.length_take, Array.length_toList]; omega
    simp only [List.append_assoc]
    rw [List.drop_append_of_le_length (by omega), List.drop_of_length_le (by omega), List.nil_append, ← List.append_assoc, ← List.append_assoc, List.take_append_of_le_length (by simp only [List.length_append, List.length_take, List.length_drop]; omega), List.take_of_length_le (by simp only [List.length_append, List.length_take, List.length_drop]; omega), List.append_assoc]

theorem size66 : ∀ w, (Go.sizeOf 66).run Try.prog w = .ok 4 w := fun _ => by kernel_rfl

set_option maxHeartbeats 400000 in
theorem insert_place (g off n i cap : Nat) (xs news : List Value) (ad : Addr) (w : World) (hrow : RowAt w 66 4 (.slice (some ⟨g, off, none⟩) n cap) n xs (some g)) (hsrc : Src w 4 (some ad) 1 news) (h1 : ∀ u ∈ xs, u.oneCell' = true) (hi : i < n) (hn : n + 1 ≤ cap) (had : w.heap[ad.block]? = some (.cells news.toArray 66 (0, 0))) (hne : ad.block ≠ g) :
    Calls Try.prog 31 #[.slice (some ⟨g, off, none⟩) n cap, .int .i64 i, .slice (some ad) 1 1] w (RetRow 66 4 (n + 1) (xs.take (i * 4) ++ news ++ xs.drop (i * 4)) (some g) w) := by
  obtain ⟨w1, w2, hr1, hr2, hrow2, hu2⟩ := place_runs g off n i cap xs news ad w hrow hsrc h1 hi hn (lt_of_heap had) hne
  have hcm : cap ≤ 9223372036854775807 := by
    obtain ⟨_, _, hv, _, hm⟩ := hrow.val
    injection hv with _ _ hv
    subst hv
    unfold maxLen at hm
    omega
  obtain ⟨cur, hg, hcs⟩ : ∃ cur, w.heap[g]? = some (.cells cur 66 (0, 0)) ∧ cap * 4 ≤ cur.size := by
    rcases hrow.2 with ⟨h0, _, _⟩ | ⟨g', off', cap', cur, hb, hv, hg, hnc, _, hcs, htake⟩
    · cases h0
    injection hb with hb
    subst hb
    injection hv with e1 e2 e3
    subst e3
    exact ⟨cur, hg, by omega⟩
  have hov : ∀ lb cb, (callFunc 34 #[.slice (some ad) 1 1, .slice (some ⟨g, off + (i + 1) * 4, none⟩) lb cb]).run Try.prog w = .ok (.value (.bool false)) w := fun lb cb => by
    rw [run_callFunc_extern Try.func34 (by kernel_rfl) (by kernel_rfl) (by kernel_rfl) (e := Extern.SlicesOverlaps.overlaps #[64, 64] #[4]) (by kernel_rfl),
      Lib.run_overlaps_apart w 64 4 66 Try.underlying64 4 size66 ad ⟨g, off + (i + 1) * 4, none⟩ 1 1 lb cb hne 66 66 news.length cur.size (by simp [World.shape?, had]) (by simp [World.shape?, hg]) (by omega) (by simp [World.frozen?, had]) (by simp [World.frozen?, had])]
    simp [Result.andThen]
  have HR1 := Lib.hid hr1; clear hr1
  have HR2 := Lib.hid hr2; clear hr2
  have H1 := Lib.hid hrow2; clear hrow2
  have H0 := Lib.hid hrow; clear hrow
  have HS := Lib.hid hsrc; clear hsrc
  have HX := Lib.hid h1; clear h1
  have HA := Lib.hid had; clear had
  have HG := Lib.hid hg; clear hg
  have hci : ¬ (cap = i) := by omega
  have hci1 : ¬ (cap = i + 1) := by omega
  have hin : i ≤ n := by omega
  have hin1 : (i : Int) ≤ (n : Int) + 1 := by omega
  have hwr : IntKind.i64.wrap ((i : Int) + 1) = (i : Int) + 1 := IntWalk.i64_in _ (by omega)
  have hw0 : (0 : Int) ≤ (i : Int) + 1 := by omega
  have hwn : ((i : Int) + 1).toNat = i + 1 := by omega
  have hwl : (i : Int) + 1 ≤ (n : Int) + 1 := by omega
  generalize xs.take (i * 4) ++ news ++ xs.drop (i * 4) = ys at H1 ⊢
  go_enter Try.func31, Try.ntmps31
  go_wp2_with (simp only [hov])
  go_region_law ((refine step_copy_run (o := ⟨some 77, _, _, _, _, _⟩) (by rfl) (.tmp 73) (.tmp 76) 64 64 (by rfl) (.slice (some ⟨g, off + (i + 1) * 4, none⟩) (n - i) (cap - (i + 1))) (.slice (some ⟨g, off + i * 4, none⟩) (n + 1 - i) (cap - i)) (by simp [Act.eval, Act.put]) (by simp [Act.eval, Act.put]) HR1.out ?_))
  go_wp2_with (refine wpList_copy_run (o := ⟨some 82, _, _, _, _, _⟩) (by rfl) (.tmp 80) (.tmp 81) 64 64 (by rfl) _ _ (by rfl) (by rfl) HR2.out ?_)
  go_ret
  exact ⟨_, _, rfl, H1.out, hu2, .inl rfl⟩

theorem insert_any (v : Value) (n i b : Nat) (xs news : List Value) (blk : Option Nat) (w : World) (hrow : RowAt w 66 4 v n xs blk) (h1 : ∀ u ∈ xs, u.oneCell' = true) (hn1 : ∀ u ∈ news, u.oneCell' = true) (hnl : news.length = 4)
    (hb : w.heap[b]? = some (.cells news.toArray 66 (0, 0))) (hne : blk ≠ some b) (hi : i ≤ n) (hn : n ≤ 5000) :
    Calls Try.prog 31 #[v, .int .i64 i, .slice (some ⟨b, 0, none⟩) 1 1] w (RetRow 66 4 (n + 1) (xs.take (i * 4) ++ news ++ xs.drop (i * 4)) blk w) := by
  have hsrc : Src w 4 (some ⟨b, 0, none⟩) 1 news := ⟨by omega, hn1, fun _ => ⟨_, rfl, fun j u hu => by rw [Addr.add_lit, Nat.zero_add, cell_of_row w b j _ _ _ hb]; simpa using hu⟩⟩
  by_cases hin : i = n
  · subst hin
    have hl := hrow.1
    have := insert_end v i xs news blk ⟨b, 0, none⟩ w hrow hsrc hn
    rw [List.take_of_length_le (by omega), List.drop_of_length_le (by omega), List.append_nil]
    exact this
  · obtain ⟨g, off, cap, hbk, hv, hnc, hcm, _⟩ := hrow.form (by omega)
    subst hbk hv
    by_cases hc : cap = n
    · subst hc
      exact insert_grow g off cap i xs news ⟨b, 0, none⟩ w hrow hsrc h1 (by omega) hn (lt_of_heap hb)
    · exact insert_place g off n i cap xs news ⟨b, 0, none⟩ w hrow hsrc h1 (by omega) (by omega) hb (fun h => hne (by simp only at h; rw [h]))

end Go.Proofs.Ytfpiiehdmdmoeaa
