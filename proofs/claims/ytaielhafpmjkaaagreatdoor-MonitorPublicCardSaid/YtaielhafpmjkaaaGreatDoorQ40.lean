/-
  Seen
-/
import Derived.Test.YtaielhafpmjkaaaGreatDoorQ39
namespace Go.Proofs.YtaielhafpmjkaaaGreatDoor
open Go.RowKit Go.Shelf
attribute [local go_sem] Oper.semAt_some
set_option maxRecDepth 100000 in
set_option maxHeartbeats 4000000 in
theorem seen_any (bp bj : Nat) (v : CV) (C : KCon) (lv : SV) (l : List Int) (pv : SV) (ps : List Int) (w : World) (hC : ConAt w v C) (hv : C.valid = true) (hL : At w 1 lv.A l.length lv.c (ints l)) (hln : l.length ≤ 4000) (hP : At w 1 pv.A ps.length pv.c (ints ps)) (hps : ∀ x ∈ ps, 0 ≤ x ∧ x < C.parties)
 (hc : w.heap[bj]? = some (.cells (v.cells C).toArray 27 (0, 0))) (hb : w.heap[bp]? = some (.cells #[.slice pv.A ps.length pv.c] 22 (0, 0))) :
 Calls Tryz.prog 77 #[v.val C, .slice lv.A l.length lv.c, .func (.func 78) #[] #[.pointer (some ⟨bp, 0, none⟩), .pointer (some ⟨bj, 0, none⟩)]] w (SeenPost C l ps w) := by
 obtain ⟨⟨vhA, vhc⟩, ⟨vuA, vuc⟩, ⟨vaA, vac⟩, ⟨vkA, vkc⟩, ⟨voA, voc⟩⟩ := v
 obtain ⟨lA, lc⟩ := lv
 have HC := Lib.hid hC; clear hC
 have HL := Lib.hid hL; clear hL
 have HP := Lib.hid hP; clear hP
 have HPS := Lib.hid hps; clear hps
 have HCJ := Lib.hid hc; clear hc
 have HBP := Lib.hid hb; clear hb
 have HV := Lib.hid hv; clear hv
 have HLN := Lib.hid hln; clear hln
 have HRS := Lib.hid (fun w : World => runSeq_any (⟨⟨vhA, vhc⟩, ⟨vuA, vuc⟩, ⟨vaA, vac⟩, ⟨vkA, vkc⟩, ⟨voA, voc⟩⟩ : CV) C lA l.length lc w)
 simp only [CV.val, CV.cells] at HRS ⊢
 refine (callsIn_wide (n := 3)).1 ?_
 refine callsIn_of_wp_marks Tryz.func77 rfl trivial ?_ rfl
 simp only [Tryz.ntmps77, List.size_toArray, List.length_cons, List.length_nil, Nat.reduceAdd, Nat.reduceSub, Array.replicate_succ, Array.replicate_zero, List.push_toArray, List.append_toArray, List.nil_append, List.cons_append]
 gi_wp2_with (refine ⟨trivial, ?_⟩; gi_at_call 103; refine (callsIn_wide.2 (HRS.out _)).mono ?_; rintro e z ⟨rfl, rfl⟩)
 obtain ⟨W2, HW2⟩ : ∃ W2, Hid (W2 = ((((((w.alloc (.cells #[.int .i64 C.parties, .slice vhA C.holders.length vhc, .slice vuA C.units.length vuc, .slice vaA C.acts.length vac, .slice vkA C.clauses.length vkc, .int .i64 C.days, .slice voA C.off.length voc] 27)).alloc (.cells #[.func (.func 78) #[] #[.pointer (some ⟨bp, 0, none⟩), .pointer (some ⟨bj, 0, none⟩)]] 110)).alloc (.cells #[.slice none 0 0] 22)).alloc (.cells #[.int .i64 0] 35)).alloc (.cells #[.slice none 0 0] 22)).alloc (.cells #[.int .i64 C.parties, .slice vhA C.holders.length vhc, .slice vuA C.units.length vuc, .slice vaA C.acts.length vac, .slice vkA C.clauses.length vkc, .int .i64 C.days, .slice voA C.off.length voc] 27)).alloc (.cells #[.slice lA l.length lc] 22)) := ⟨_, rfl⟩
 rw [← HW2.out]
 have hh0 : W2.heap[w.heap.size]? = some (.cells #[.int .i64 C.parties, .slice vhA C.holders.length vhc, .slice vuA C.units.length vuc, .slice vaA C.acts.length vac, .slice vkA C.clauses.length vkc, .int .i64 C.days, .slice voA C.off.length voc] 27 (0, 0)) := by rw [HW2.out]; exact (Below.heap_alloc ((((((w.alloc (.cells #[.int .i64 C.parties, .slice vhA C.holders.length vhc, .slice vuA C.units.length vuc, .slice vaA C.acts.length vac, .slice vkA C.clauses.length vkc, .int .i64 C.days, .slice voA C.off.length voc] 27)).alloc (.cells #[.func (.func 78) #[] #[.pointer (some ⟨bp, 0, none⟩), .pointer (some ⟨bj, 0, none⟩)]] 110)).alloc (.cells #[.slice none 0 0] 22)).alloc (.cells #[.int .i64 0] 35)).alloc (.cells #[.slice none 0 0] 22)).alloc (.cells #[.int .i64 C.parties, .slice vhA C.holders.length vhc, .slice vuA C.units.length vuc, .slice vaA C.acts.length vac, .slice vkA C.clauses.length vkc, .int .i64 C.days, .slice voA C.off.length voc] 27)) _ (w.heap.size) (by simp only [World.size_alloc]; omega)).trans ((Below.heap_alloc (((((w.alloc (.cells #[.int .i64 C.parties, .slice vhA C.holders.length vhc, .slice vuA C.units.length vuc, .slice vaA C.acts.length vac, .slice vkA C.clauses.length vkc, .int .i64 C.days, .slice voA C.off.length voc] 27)).alloc (.cells #[.func (.func 78) #[] #[.pointer (some ⟨bp, 0, none⟩), .pointer (some ⟨bj, 0, none⟩)]] 110)).alloc (.cells #[.slice none 0 0] 22)).alloc (.cells #[.int .i64 0] 35)).alloc (.cells #[.slice none 0 0] 22)) _ (w.heap.size) (by simp only [World.size_alloc]; omega)).trans ((Below.heap_alloc ((((w.alloc (.cells #[.int .i64 C.parties, .slice vhA C.holders.length vhc, .slice vuA C.units.length vuc, .slice vaA C.acts.length vac, .slice vkA C.clauses.length vkc, .int .i64 C.days, .slice voA C.off.length voc] 27)).alloc (.cells #[.func (.func 78) #[] #[.pointer (some ⟨bp, 0, none⟩), .pointer (some ⟨bj, 0, none⟩)]] 110)).alloc (.cells #[.slice none 0 0] 22)).alloc (.cells #[.int .i64 0] 35)) _ (w.heap.size) (by simp only [World.size_alloc]; omega)).trans ((Below.heap_alloc (((w.alloc (.cells #[.int .i64 C.parties, .slice vhA C.holders.length vhc, .slice vuA C.units.length vuc, .slice vaA C.acts.length vac, .slice vkA C.clauses.length vkc, .int .i64 C.days, .slice voA C.off.length voc] 27)).alloc (.cells #[.func (.func 78) #[] #[.pointer (some ⟨bp, 0, none⟩), .pointer (some ⟨bj, 0, none⟩)]] 110)).alloc (.cells #[.slice none 0 0] 22)) _ (w.heap.size) (by simp only [World.size_alloc]; omega)).trans ((Below.heap_alloc ((w.alloc (.cells #[.int .i64 C.parties, .slice vhA C.holders.length vhc, .slice vuA C.units.length vuc, .slice vaA C.acts.length vac, .slice vkA C.clauses.length vkc, .int .i64 C.days, .slice voA C.off.length voc] 27)).alloc (.cells #[.func (.func 78) #[] #[.pointer (some ⟨bp, 0, none⟩), .pointer (some ⟨bj, 0, none⟩)]] 110)) _ (w.heap.size) (by simp only [World.size_alloc]; omega)).trans ((Below.heap_alloc (w.alloc (.cells #[.int .i64 C.parties, .slice vhA C.holders.length vhc, .slice vuA C.units.length vuc, .slice vaA C.acts.length vac, .slice vkA C.clauses.length vkc, .int .i64 C.days, .slice voA C.off.length voc] 27)) _ (w.heap.size) (by simp only [World.size_alloc]; omega)).trans (heap_alloc_new w (.cells #[.int .i64 C.parties, .slice vhA C.holders.length vhc, .slice vuA C.units.length vuc, .slice vaA C.acts.length vac, .slice vkA C.clauses.length vkc, .int .i64 C.days, .slice voA C.off.length voc] 27)))))))
 have hh1 : W2.heap[w.heap.size + 1]? = some (.cells #[.func (.func 78) #[] #[.pointer (some ⟨bp, 0, none⟩), .pointer (some ⟨bj, 0, none⟩)]] 110 (0, 0)) := by rw [HW2.out]; exact (Below.heap_alloc ((((((w.alloc (.cells #[.int .i64 C.parties, .slice vhA C.holders.length vhc, .slice vuA C.units.length vuc, .slice vaA C.acts.length vac, .slice vkA C.clauses.length vkc, .int .i64 C.days, .slice voA C.off.length voc] 27)).alloc (.cells #[.func (.func 78) #[] #[.pointer (some ⟨bp, 0, none⟩), .pointer (some ⟨bj, 0, none⟩)]] 110)).alloc (.cells #[.slice none 0 0] 22)).alloc (.cells #[.int .i64 0] 35)).alloc (.cells #[.slice none 0 0] 22)).alloc (.cells #[.int .i64 C.parties, .slice vhA C.holders.length vhc, .slice vuA C.units.length vuc, .slice vaA C.acts.length vac, .slice vkA C.clauses.length vkc, .int .i64 C.days, .slice voA C.off.length voc] 27)) _ (w.heap.size + 1) (by simp only [World.size_alloc]; omega)).trans ((Below.heap_alloc (((((w.alloc (.cells #[.int .i64 C.parties, .slice vhA C.holders.length vhc, .slice vuA C.units.length vuc, .slice vaA C.acts.length vac, .slice vkA C.clauses.length vkc, .int .i64 C.days, .slice voA C.off.length voc] 27)).alloc (.cells #[.func (.func 78) #[] #[.pointer (some ⟨bp, 0, none⟩), .pointer (some ⟨bj, 0, none⟩)]] 110)).alloc (.cells #[.slice none 0 0] 22)).alloc (.cells #[.int .i64 0] 35)).alloc (.cells #[.slice none 0 0] 22)) _ (w.heap.size + 1) (by simp only [World.size_alloc]; omega)).trans ((Below.heap_alloc ((((w.alloc (.cells #[.int .i64 C.parties, .slice vhA C.holders.length vhc, .slice vuA C.units.length vuc, .slice vaA C.acts.length vac, .slice vkA C.clauses.length vkc, .int .i64 C.days, .slice voA C.off.length voc] 27)).alloc (.cells #[.func (.func 78) #[] #[.pointer (some ⟨bp, 0, none⟩), .pointer (some ⟨bj, 0, none⟩)]] 110)).alloc (.cells #[.slice none 0 0] 22)).alloc (.cells #[.int .i64 0] 35)) _ (w.heap.size + 1) (by simp only [World.size_alloc]; omega)).trans ((Below.heap_alloc (((w.alloc (.cells #[.int .i64 C.parties, .slice vhA C.holders.length vhc, .slice vuA C.units.length vuc, .slice vaA C.acts.length vac, .slice vkA C.clauses.length vkc, .int .i64 C.days, .slice voA C.off.length voc] 27)).alloc (.cells #[.func (.func 78) #[] #[.pointer (some ⟨bp, 0, none⟩), .pointer (some ⟨bj, 0, none⟩)]] 110)).alloc (.cells #[.slice none 0 0] 22)) _ (w.heap.size + 1) (by simp only [World.size_alloc]; omega)).trans ((Below.heap_alloc ((w.alloc (.cells #[.int .i64 C.parties, .slice vhA C.holders.length vhc, .slice vuA C.units.length vuc, .slice vaA C.acts.length vac, .slice vkA C.clauses.length vkc, .int .i64 C.days, .slice voA C.off.length voc] 27)).alloc (.cells #[.func (.func 78) #[] #[.pointer (some ⟨bp, 0, none⟩), .pointer (some ⟨bj, 0, none⟩)]] 110)) _ (w.heap.size + 1) (by simp only [World.size_alloc]; omega)).trans ((by have h := heap_alloc_new (w.alloc (.cells #[.int .i64 C.parties, .slice vhA C.holders.length vhc, .slice vuA C.units.length vuc, .slice vaA C.acts.length vac, .slice vkA C.clauses.length vkc, .int .i64 C.days, .slice voA C.off.length voc] 27)) (.cells #[.func (.func 78) #[] #[.pointer (some ⟨bp, 0, none⟩), .pointer (some ⟨bj, 0, none⟩)]] 110); simp only [World.size_alloc] at h; exact h))))))
 have hh2 : W2.heap[w.heap.size + 1 + 1]? = some (.cells #[.slice none 0 0] 22 (0, 0)) := by rw [HW2.out]; exact (Below.heap_alloc ((((((w.alloc (.cells #[.int .i64 C.parties, .slice vhA C.holders.length vhc, .slice vuA C.units.length vuc, .slice vaA C.acts.length vac, .slice vkA C.clauses.length vkc, .int .i64 C.days, .slice voA C.off.length voc] 27)).alloc (.cells #[.func (.func 78) #[] #[.pointer (some ⟨bp, 0, none⟩), .pointer (some ⟨bj, 0, none⟩)]] 110)).alloc (.cells #[.slice none 0 0] 22)).alloc (.cells #[.int .i64 0] 35)).alloc (.cells #[.slice none 0 0] 22)).alloc (.cells #[.int .i64 C.parties, .slice vhA C.holders.length vhc, .slice vuA C.units.length vuc, .slice vaA C.acts.length vac, .slice vkA C.clauses.length vkc, .int .i64 C.days, .slice voA C.off.length voc] 27)) _ (w.heap.size + 1 + 1) (by simp only [World.size_alloc]; omega)).trans ((Below.heap_alloc (((((w.alloc (.cells #[.int .i64 C.parties, .slice vhA C.holders.length vhc, .slice vuA C.units.length vuc, .slice vaA C.acts.length vac, .slice vkA C.clauses.length vkc, .int .i64 C.days, .slice voA C.off.length voc] 27)).alloc (.cells #[.func (.func 78) #[] #[.pointer (some ⟨bp, 0, none⟩), .pointer (some ⟨bj, 0, none⟩)]] 110)).alloc (.cells #[.slice none 0 0] 22)).alloc (.cells #[.int .i64 0] 35)).alloc (.cells #[.slice none 0 0] 22)) _ (w.heap.size + 1 + 1) (by simp only [World.size_alloc]; omega)).trans ((Below.heap_alloc ((((w.alloc (.cells #[.int .i64 C.parties, .slice vhA C.holders.length vhc, .slice vuA C.units.length vuc, .slice vaA C.acts.length vac, .slice vkA C.clauses.length vkc, .int .i64 C.days, .slice voA C.off.length voc] 27)).alloc (.cells #[.func (.func 78) #[] #[.pointer (some ⟨bp, 0, none⟩), .pointer (some ⟨bj, 0, none⟩)]] 110)).alloc (.cells #[.slice none 0 0] 22)).alloc (.cells #[.int .i64 0] 35)) _ (w.heap.size + 1 + 1) (by simp only [World.size_alloc]; omega)).trans ((Below.heap_alloc (((w.alloc (.cells #[.int .i64 C.parties, .slice vhA C.holders.length vhc, .slice vuA C.units.length vuc, .slice vaA C.acts.length vac, .slice vkA C.clauses.length vkc, .int .i64 C.days, .slice voA C.off.length voc] 27)).alloc (.cells #[.func (.func 78) #[] #[.pointer (some ⟨bp, 0, none⟩), .pointer (some ⟨bj, 0, none⟩)]] 110)).alloc (.cells #[.slice none 0 0] 22)) _ (w.heap.size + 1 + 1) (by simp only [World.size_alloc]; omega)).trans ((by have h := heap_alloc_new ((w.alloc (.cells #[.int .i64 C.parties, .slice vhA C.holders.length vhc, .slice vuA C.units.length vuc, .slice vaA C.acts.length vac, .slice vkA C.clauses.length vkc, .int .i64 C.days, .slice voA C.off.length voc] 27)).alloc (.cells #[.func (.func 78) #[] #[.pointer (some ⟨bp, 0, none⟩), .pointer (some ⟨bj, 0, none⟩)]] 110)) (.cells #[.slice none 0 0] 22); simp only [World.size_alloc] at h; exact h)))))
 have hh3 : W2.heap[w.heap.size + 1 + 1 + 1]? = some (.cells #[.int .i64 0] 35 (0, 0)) := by rw [HW2.out]; exact (Below.heap_alloc ((((((w.alloc (.cells #[.int .i64 C.parties, .slice vhA C.holders.length vhc, .slice vuA C.units.length vuc, .slice vaA C.acts.length vac, .slice vkA C.clauses.length vkc, .int .i64 C.days, .slice voA C.off.length voc] 27)).alloc (.cells #[.func (.func 78) #[] #[.pointer (some ⟨bp, 0, none⟩), .pointer (some ⟨bj, 0, none⟩)]] 110)).alloc (.cells #[.slice none 0 0] 22)).alloc (.cells #[.int .i64 0] 35)).alloc (.cells #[.slice none 0 0] 22)).alloc (.cells #[.int .i64 C.parties, .slice vhA C.holders.length vhc, .slice vuA C.units.length vuc, .slice vaA C.acts.length vac, .slice vkA C.clauses.length vkc, .int .i64 C.days, .slice voA C.off.length voc] 27)) _ (w.heap.size + 1 + 1 + 1) (by simp only [World.size_alloc]; omega)).trans ((Below.heap_alloc (((((w.alloc (.cells #[.int .i64 C.parties, .slice vhA C.holders.length vhc, .slice vuA C.units.length vuc, .slice vaA C.acts.length vac, .slice vkA C.clauses.length vkc, .int .i64 C.days, .slice voA C.off.length voc] 27)).alloc (.cells #[.func (.func 78) #[] #[.pointer (some ⟨bp, 0, none⟩), .pointer (some ⟨bj, 0, none⟩)]] 110)).alloc (.cells #[.slice none 0 0] 22)).alloc (.cells #[.int .i64 0] 35)).alloc (.cells #[.slice none 0 0] 22)) _ (w.heap.size + 1 + 1 + 1) (by simp only [World.size_alloc]; omega)).trans ((Below.heap_alloc ((((w.alloc (.cells #[.int .i64 C.parties, .slice vhA C.holders.length vhc, .slice vuA C.units.length vuc, .slice vaA C.acts.length vac, .slice vkA C.clauses.length vkc, .int .i64 C.days, .slice voA C.off.length voc] 27)).alloc (.cells #[.func (.func 78) #[] #[.pointer (some ⟨bp, 0, none⟩), .pointer (some ⟨bj, 0, none⟩)]] 110)).alloc (.cells #[.slice none 0 0] 22)).alloc (.cells #[.int .i64 0] 35)) _ (w.heap.size + 1 + 1 + 1) (by simp only [World.size_alloc]; omega)).trans ((by have h := heap_alloc_new (((w.alloc (.cells #[.int .i64 C.parties, .slice vhA C.holders.length vhc, .slice vuA C.units.length vuc, .slice vaA C.acts.length vac, .slice vkA C.clauses.length vkc, .int .i64 C.days, .slice voA C.off.length voc] 27)).alloc (.cells #[.func (.func 78) #[] #[.pointer (some ⟨bp, 0, none⟩), .pointer (some ⟨bj, 0, none⟩)]] 110)).alloc (.cells #[.slice none 0 0] 22)) (.cells #[.int .i64 0] 35); simp only [World.size_alloc] at h; exact h))))
 have hh4 : W2.heap[w.heap.size + 1 + 1 + 1 + 1]? = some (.cells #[.slice none 0 0] 22 (0, 0)) := by rw [HW2.out]; exact (Below.heap_alloc ((((((w.alloc (.cells #[.int .i64 C.parties, .slice vhA C.holders.length vhc, .slice vuA C.units.length vuc, .slice vaA C.acts.length vac, .slice vkA C.clauses.length vkc, .int .i64 C.days, .slice voA C.off.length voc] 27)).alloc (.cells #[.func (.func 78) #[] #[.pointer (some ⟨bp, 0, none⟩), .pointer (some ⟨bj, 0, none⟩)]] 110)).alloc (.cells #[.slice none 0 0] 22)).alloc (.cells #[.int .i64 0] 35)).alloc (.cells #[.slice none 0 0] 22)).alloc (.cells #[.int .i64 C.parties, .slice vhA C.holders.length vhc, .slice vuA C.units.length vuc, .slice vaA C.acts.length vac, .slice vkA C.clauses.length vkc, .int .i64 C.days, .slice voA C.off.length voc] 27)) _ (w.heap.size + 1 + 1 + 1 + 1) (by simp only [World.size_alloc]; omega)).trans ((Below.heap_alloc (((((w.alloc (.cells #[.int .i64 C.parties, .slice vhA C.holders.length vhc, .slice vuA C.units.length vuc, .slice vaA C.acts.length vac, .slice vkA C.clauses.length vkc, .int .i64 C.days, .slice voA C.off.length voc] 27)).alloc (.cells #[.func (.func 78) #[] #[.pointer (some ⟨bp, 0, none⟩), .pointer (some ⟨bj, 0, none⟩)]] 110)).alloc (.cells #[.slice none 0 0] 22)).alloc (.cells #[.int .i64 0] 35)).alloc (.cells #[.slice none 0 0] 22)) _ (w.heap.size + 1 + 1 + 1 + 1) (by simp only [World.size_alloc]; omega)).trans ((by have h := heap_alloc_new ((((w.alloc (.cells #[.int .i64 C.parties, .slice vhA C.holders.length vhc, .slice vuA C.units.length vuc, .slice vaA C.acts.length vac, .slice vkA C.clauses.length vkc, .int .i64 C.days, .slice voA C.off.length voc] 27)).alloc (.cells #[.func (.func 78) #[] #[.pointer (some ⟨bp, 0, none⟩), .pointer (some ⟨bj, 0, none⟩)]] 110)).alloc (.cells #[.slice none 0 0] 22)).alloc (.cells #[.int .i64 0] 35)) (.cells #[.slice none 0 0] 22); simp only [World.size_alloc] at h; exact h)))
 have hh5 : W2.heap[w.heap.size + 1 + 1 + 1 + 1 + 1]? = some (.cells #[.int .i64 C.parties, .slice vhA C.holders.length vhc, .slice vuA C.units.length vuc, .slice vaA C.acts.length vac, .slice vkA C.clauses.length vkc, .int .i64 C.days, .slice voA C.off.length voc] 27 (0, 0)) := by rw [HW2.out]; exact (Below.heap_alloc ((((((w.alloc (.cells #[.int .i64 C.parties, .slice vhA C.holders.length vhc, .slice vuA C.units.length vuc, .slice vaA C.acts.length vac, .slice vkA C.clauses.length vkc, .int .i64 C.days, .slice voA C.off.length voc] 27)).alloc (.cells #[.func (.func 78) #[] #[.pointer (some ⟨bp, 0, none⟩), .pointer (some ⟨bj, 0, none⟩)]] 110)).alloc (.cells #[.slice none 0 0] 22)).alloc (.cells #[.int .i64 0] 35)).alloc (.cells #[.slice none 0 0] 22)).alloc (.cells #[.int .i64 C.parties, .slice vhA C.holders.length vhc, .slice vuA C.units.length vuc, .slice vaA C.acts.length vac, .slice vkA C.clauses.length vkc, .int .i64 C.days, .slice voA C.off.length voc] 27)) _ (w.heap.size + 1 + 1 + 1 + 1 + 1) (by simp only [World.size_alloc]; omega)).trans ((by have h := heap_alloc_new (((((w.alloc (.cells #[.int .i64 C.parties, .slice vhA C.holders.length vhc, .slice vuA C.units.length vuc, .slice vaA C.acts.length vac, .slice vkA C.clauses.length vkc, .int .i64 C.days, .slice voA C.off.length voc] 27)).alloc (.cells #[.func (.func 78) #[] #[.pointer (some ⟨bp, 0, none⟩), .pointer (some ⟨bj, 0, none⟩)]] 110)).alloc (.cells #[.slice none 0 0] 22)).alloc (.cells #[.int .i64 0] 35)).alloc (.cells #[.slice none 0 0] 22)) (.cells #[.int .i64 C.parties, .slice vhA C.holders.length vhc, .slice vuA C.units.length vuc, .slice vaA C.acts.length vac, .slice vkA C.clauses.length vkc, .int .i64 C.days, .slice voA C.off.length voc] 27); simp only [World.size_alloc] at h; exact h))
 have hh6 : W2.heap[w.heap.size + 1 + 1 + 1 + 1 + 1 + 1]? = some (.cells #[.slice lA l.length lc] 22 (0, 0)) := by rw [HW2.out]; exact (by have h := heap_alloc_new ((((((w.alloc (.cells #[.int .i64 C.parties, .slice vhA C.holders.length vhc, .slice vuA C.units.length vuc, .slice vaA C.acts.length vac, .slice vkA C.clauses.length vkc, .int .i64 C.days, .slice voA C.off.length voc] 27)).alloc (.cells #[.func (.func 78) #[] #[.pointer (some ⟨bp, 0, none⟩), .pointer (some ⟨bj, 0, none⟩)]] 110)).alloc (.cells #[.slice none 0 0] 22)).alloc (.cells #[.int .i64 0] 35)).alloc (.cells #[.slice none 0 0] 22)).alloc (.cells #[.int .i64 C.parties, .slice vhA C.holders.length vhc, .slice vuA C.units.length vuc, .slice vaA C.acts.length vac, .slice vkA C.clauses.length vkc, .int .i64 C.days, .slice voA C.off.length voc] 27)) (.cells #[.slice lA l.length lc] 22); simp only [World.size_alloc] at h; exact h)
 have HSZ : Hid (W2.heap.size = w.heap.size + 1 + 1 + 1 + 1 + 1 + 1 + 1) := by show _ = _; rw [HW2.out]; simp
 have HBW : Hid (Below w.heap.size w W2) := by show Below _ _ _; rw [HW2.out]; exact Below.alloc' (Below.alloc' (Below.alloc' (Below.alloc' (Below.alloc' (Below.alloc' (Below.alloc' (Below.refl _ _) _) _) _) _) _) _) _
 have HINV : Hid (SeenInv bp bj (⟨⟨vhA, vhc⟩, ⟨vuA, vuc⟩, ⟨vaA, vac⟩, ⟨vkA, vkc⟩, ⟨voA, voc⟩⟩ : CV) C lA lc l ps w 0 W2) := ⟨HBW.out, hh0, hh1, hh2, hh3, hh5, hh6, none, 0, hh4, World.ownsRow_nil _ _ _ _⟩
 clear hh0 hh1 hh2 hh3 hh4 hh5 hh6 HRS
 refine wpIn_range_leave (α := Mo) rfl (by omega) (gf := 116) rfl trivial (enters_of Tryz.func116 (by kernel_rfl) rfl)
  (run_iter (v := (⟨⟨vhA, vhc⟩, ⟨vuA, vuc⟩, ⟨vaA, vac⟩, ⟨vkA, vkc⟩, ⟨voA, voc⟩⟩ : CV)) (bc := w.heap.size + 1 + 1 + 1 + 1 + 1) (bl := w.heap.size + 1 + 1 + 1 + 1 + 1 + 1) (b8 := w.heap.size + 1 + 1 + 1 + 1) (fx := SeenFx w) HV.out _ (by omega) (fun pre V => SeenInv bp bj (⟨⟨vhA, vhc⟩, ⟨vuA, vuc⟩, ⟨vaA, vac⟩, ⟨vkA, vkc⟩, ⟨voA, voc⟩⟩ : CV) C lA lc l ps w pre.length V) (fun pre V h => h.iter HC.out HL.out)) (fun _ => rfl)
  (fun _ V => Below w.heap.size w V ∧ V.heap[w.heap.size + 1 + 1]? = some (.cells #[.slice none 0 0] 22 (0, 0)) ∧ ∃ er : Int, er ≠ 0 ∧ V.heap[w.heap.size + 1 + 1 + 1]? = some (.cells #[.int .i64 er] 35 (0, 0)))
  ?hI ?hIx (fun _ _ _ _ _ _ h h1 h2 => ⟨h.1.putObj h1 h2, h.2⟩) (fun _ _ _ _ _ _ h h1 h2 => ⟨h.1.putObj h1 h2, h.2⟩)
  (fun _ _ _ _ _ h1 h2 h3 h4 => SeenKp.left HSZ.out h1 h2 h3 h4) (fun _ _ _ _ _ _ h1 h2 h3 h4 => SeenKp.right HSZ.out h1 h2 h3 h4)
  (fun x => .cells #[.int .i64 x.step, .int .i64 x.s.day, .slice x.t.h.A x.s.holders.length x.t.h.c, .slice x.t.u.A x.s.used.length x.t.u.c, .slice x.t.m.A x.s.marks.length x.t.m.c] 137) (fun _ _ _ _ h hb => ⟨⟨h.1.1, h.1.2.1, h.1.2.2.1, h.1.2.2.2.1.below hb, h.1.2.2.2.2⟩, h.2⟩) (fun _ _ _ _ h hb => ⟨⟨h.1.1, h.1.2.1, h.1.2.2.1, h.1.2.2.2.1.below hb, h.1.2.2.2.2⟩, h.2⟩)
  (fun _ _ _ _ h hb hk => by obtain ⟨_, _, h4, _⟩ := h.row; exact SeenKp.below (lt_of_heap h4) hb hk) HINV.out ?a1 ?assign ?body ?leave ?done ?stop
 case assign =>
  intro l x W K hK
  simp only [Mo.encs]
  gi_wp2
  obtain ⟨b, hb⟩ : ∃ b, b = W.heap.size := ⟨_, rfl⟩
  rw [← hb] at hK ⊢
  exact hK
 case hI => exact fun pre V V' h ht => h.turns HSZ.out ht
 case hIx =>
  rintro pre V V' ⟨h1, h2, er, h3, h4⟩ ht
  have hsz := HSZ.out
  have kp : ∀ {b : Nat} {o : Obj}, V.heap[b]? = some o → b < w.heap.size + 1 + 1 + 1 + 1 + 1 + 1 + 1 → V'.heap[b]? = some o := fun {b o} hb hl => by
   rw [ht.block b (lt_of_heap hb) (fun hn => by have := hn.1; omega)]; exact hb
  exact ⟨h1.trans (ht.below h1.size (fun k hk => by have := hk.1; omega)), kp h2 (by omega), er, h3, kp h4 (by omega)⟩
 case body =>
  rintro ll pre x W b hIv ⟨hok, her⟩ hb hbx
  obtain ⟨xst, xs, ⟨⟨xhA, xhc⟩, ⟨xuA, xuc⟩, ⟨xmA, xmc⟩⟩, xer⟩ := x
  simp only at her hbx
  have c0 : W.cell? ⟨b, 0, none⟩ = some (.int .i64 xst) := (cell_of_row _ _ 0 _ _ _ hbx).trans rfl
  have c1 : W.cell? ⟨b, 1, none⟩ = some (.int .i64 xs.day) := (cell_of_row _ _ 1 _ _ _ hbx).trans rfl
  have c2 : W.cell? ⟨b, 2, none⟩ = some (.slice xhA xs.holders.length xhc) := (cell_of_row _ _ 2 _ _ _ hbx).trans rfl
  have c3 : W.cell? ⟨b, 3, none⟩ = some (.slice xuA xs.used.length xuc) := (cell_of_row _ _ 3 _ _ _ hbx).trans rfl
  have c4 : W.cell? ⟨b, 4, none⟩ = some (.slice xmA xs.marks.length xmc) := (cell_of_row _ _ 4 _ _ _ hbx).trans rfl
  have HI := Lib.hid hIv
  obtain ⟨hok1, hok2, hok3, hok4, hok5⟩ := hok
  simp only at hok1 hok2 hok3 hok4
  have HO1 := Lib.hid hok1
  have HO2 := Lib.hid hok2
  have HO3 := Lib.hid hok3
  have HO4 := Lib.hid hok4
  clear hIv hok1 hok2 hok3 hok4 hok5 hbx
  subst her
  obtain ⟨A, c8, h4V, hrV⟩ := HI.out.row
  have H4V := Lib.hid h4V
  have HRV := Lib.hid hrV
  clear h4V hrV
  have HRL : Hid ((viewTo C l ps pre.length).length ≤ 1000000) := by
   show _ ≤ _
   have h1 := viewTo_len C l ps pre.length
   have h2 := (List.getElem?_eq_some_iff.1 HO1.out).1
   have h3 := HLN.out
   omega
  obtain ⟨HSO, hday, hso, _⟩ := stepErr_zero (by rw [← HO2.out, ← HO3.out] : C.stepErr (C.att (l.take pre.length)) xst = 0)
  have HSS : Hid (∀ y : Bool, seenB C xs ps xst = y → viewTo C l ps (pre.length + 1) = cond y (viewTo C l ps pre.length ++ [xst]) (viewTo C l ps pre.length)) := fun y hy => by rw [viewTo_some HO1.out, ← HO2.out, hy]
  have HBB : Hid (b < W.heap.size ∧ w.heap.size + 1 + 1 + 1 + 1 + 1 + 1 + 1 ≤ b) := ⟨World.block_lt_of_cell? W ⟨b, 0, none⟩ c0, by rw [← HSZ.out]; exact hb⟩
  have h5 : W.cell? ⟨w.heap.size + 1, 0, none⟩ = some (.func (.func 78) #[] #[.pointer (some ⟨bp, 0, none⟩), .pointer (some ⟨bj, 0, none⟩)]) := (cell_of_row _ _ 0 _ _ _ HI.out.b1).trans rfl
  clear hb
  by_cases hst : xst = -1
  · subst hst
    have HVW : Hid (viewTo C l ps (pre.length + 1) = viewTo C l ps pre.length ++ [-1]) := HSS.out true rfl
    have HZB : Hid (Below W.heap.size W W) := Below.refl _ _
    have H4 : Hid (W.heap[w.heap.size + 1 + 1 + 1 + 1]? = some (.cells #[.slice A (viewTo C l ps pre.length).length c8] 22 (0, 0))) := H4V.out
    have HRZ := HRV
    have HC0 := Lib.hid c0
    have HBZ : Hid (b < W.heap.size) := HBB.out.1
    have HB7 : Hid (w.heap.size + 1 + 1 + 1 + 1 + 1 + 1 + 1 ≤ W.heap.size) := by show _ ≤ _; have := HBB.out; omega
    gi_wp2
    refine ⟨fun _ h => (by cases h), ?_⟩
    have h8 : W.cell? ⟨w.heap.size + 1 + 1 + 1 + 1, 0, none⟩ = some (.slice A (viewTo C l ps pre.length).length c8) := (cell_of_row _ _ 0 _ _ _ H4.out).trans rfl
    have f8 : W.frozen? ⟨w.heap.size + 1 + 1 + 1 + 1, 0, none⟩ = false := frozen_of_row H4.out 0
    have c0 : W.cell? ⟨b, 0, none⟩ = some (.int .i64 (-1)) := HC0.out
    have hbz : b < W.heap.size := HBZ.out
    have h8z : w.heap.size + 1 + 1 + 1 + 1 < W.heap.size := lt_of_heap H4.out
    have hrl : (viewTo C l ps pre.length).length ≤ 1000000 := HRL.out
    have hB7 : w.heap.size + 1 + 1 + 1 + 1 + 1 + 1 + 1 ≤ W.heap.size := HB7.out
    gi_wp2_with (gi_at_builtin; refine wpListIn_append_int rfl _ _ rfl (w.heap.size + 1 + 1 + 1 + 1 + 1 + 1 + 1) (.slice A (viewTo C l ps pre.length).length c8) (viewTo C l ps pre.length) rfl HRZ.out (-1) rfl hrl hB7 ?_; intro A' c' w9 q1 q2 q3; refine Hid.out ?_)
    refine Lib.hid ?_
    have H49 : Hid (w9.heap[w.heap.size + 1 + 1 + 1 + 1]? = some (.cells #[.slice A (viewTo C l ps pre.length).length c8] 22 (0, 0))) := by
     show _ = _
     rw [q2.block _ (by simp; omega) (fun e => by have := (HRZ.out.lt _ e.symm).1; omega), Below.heap_alloc _ _ _ h8z]
     exact H4.out
    have h8' : w9.cell? ⟨w.heap.size + 1 + 1 + 1 + 1, 0, none⟩ = some (.slice A (viewTo C l ps pre.length).length c8) := (cell_of_row _ _ 0 _ _ _ H49.out).trans rfl
    have f8' : w9.frozen? ⟨w.heap.size + 1 + 1 + 1 + 1, 0, none⟩ = false := frozen_of_row H49.out 0
    have HQ1 := Lib.hid q1
    have HQ2 := Lib.hid q2
    have HQ3 := Lib.hid q3
    clear q1 q2 q3
    gi_wp2
    have hh := HI.out.app HZB.out HVW.out H4V.out HRV.out HQ1.out HQ2.out HQ3.out
    simp only [List.length_append, List.length_cons, List.length_nil, Nat.zero_add] at hh
    rw [HSZ.out]
    exact hh
  · have hst' : (xst == -1) = false := by simpa using hst
    obtain ⟨i, hi, hil⟩ : ∃ i : Nat, (i : Int) = xst ∧ i < C.acts.length := by
     rcases hso with e | ⟨e1, e2⟩
     · exact absurd e hst
     · exact ⟨xst.toNat, by omega, by omega⟩
    have HSB := Lib.hid (somebody_any bp bj (⟨⟨vhA, vhc⟩, ⟨vuA, vuc⟩, ⟨vaA, vac⟩, ⟨vkA, vkc⟩, ⟨voA, voc⟩⟩ : CV) C pv ps (⟨⟨xhA, xhc⟩, ⟨xuA, xuc⟩, ⟨xmA, xmc⟩⟩ : TV) xs i W (HC.out.below HI.out.below) HO4.out (by rw [HO2.out]; exact HSO) hil (HP.out.below (by omega) HI.out.below) HPS.out (by rw [HI.out.below.block bj (lt_of_heap HCJ.out)]; exact HCJ.out) (by rw [HI.out.below.block bp (lt_of_heap HBP.out)]; exact HBP.out))
    rw [hi] at HSB
    simp only [TV.val, TV.cells, KState.cells] at HSB
    have HSX : Hid (seenB C xs ps xst = ps.any (fun x => C.sees xs x xst)) := by show _ = _; unfold seenB; rw [hst', Bool.false_or]
    cases hy : ps.any (fun x => C.sees xs x xst) with
    | false =>
     rw [hy] at HSB HSX
     have HVW : Hid (viewTo C l ps (pre.length + 1) = viewTo C l ps pre.length) := HSS.out false HSX.out
     clear hy hi hil HSO hday hso
     gi_wp2_with (refine ⟨trivial, ?_⟩; gi_at_call 78; refine (CallsIn.inRound ll (callsIn_wide.2 HSB.out)).mono ?_; rintro e z ⟨rfl, hz⟩)
     gi_wp2
     rw [HSZ.out]
     exact HI.out.skip hz HVW.out
    | true =>
     rw [hy] at HSB HSX
     have HVW : Hid (viewTo C l ps (pre.length + 1) = viewTo C l ps pre.length ++ [xst]) := HSS.out true HSX.out
     clear hy hi hil HSO hday hso
     gi_wp2_with (refine ⟨trivial, ?_⟩; gi_at_call 78; refine (CallsIn.inRound ll (callsIn_wide.2 HSB.out)).mono ?_; rintro e z ⟨rfl, hz⟩; refine Hid.out ?_)
     refine Lib.hid ?_
     have HZB := Lib.hid hz
     have H4 : Hid (z.heap[w.heap.size + 1 + 1 + 1 + 1]? = some (.cells #[.slice A (viewTo C l ps pre.length).length c8] 22 (0, 0))) := by show _ = _; rw [hz.block _ (lt_of_heap H4V.out)]; exact H4V.out
     have HRZ := Lib.hid (ownsRow_below HRV.out hz)
     have HC0 : Hid (z.cell? ⟨b, 0, none⟩ = some (.int .i64 xst)) := by show _ = _; rw [hz.cell (p := ⟨b, 0, none⟩) HBB.out.1]; exact c0
     have HBZ : Hid (b < z.heap.size) := Nat.lt_of_lt_of_le HBB.out.1 hz.size
     have HB7 : Hid (w.heap.size + 1 + 1 + 1 + 1 + 1 + 1 + 1 ≤ z.heap.size) := by show _ ≤ _; have := HBB.out; have := hz.size; omega
     clear hz c0 c1 c2 c3 c4 h5
     have h8 : z.cell? ⟨w.heap.size + 1 + 1 + 1 + 1, 0, none⟩ = some (.slice A (viewTo C l ps pre.length).length c8) := (cell_of_row _ _ 0 _ _ _ H4.out).trans rfl
     have f8 : z.frozen? ⟨w.heap.size + 1 + 1 + 1 + 1, 0, none⟩ = false := frozen_of_row H4.out 0
     have c0 : z.cell? ⟨b, 0, none⟩ = some (.int .i64 xst) := HC0.out
     have hbz : b < z.heap.size := HBZ.out
     have h8z : w.heap.size + 1 + 1 + 1 + 1 < z.heap.size := lt_of_heap H4.out
     have hrl : (viewTo C l ps pre.length).length ≤ 1000000 := HRL.out
     have hB7 : w.heap.size + 1 + 1 + 1 + 1 + 1 + 1 + 1 ≤ z.heap.size := HB7.out
     gi_wp2_with (gi_at_builtin; refine wpListIn_append_int rfl _ _ rfl (w.heap.size + 1 + 1 + 1 + 1 + 1 + 1 + 1) (.slice A (viewTo C l ps pre.length).length c8) (viewTo C l ps pre.length) rfl HRZ.out xst rfl hrl hB7 ?_; intro A' c' w9 q1 q2 q3; refine Hid.out ?_)
     refine Lib.hid ?_
     have H49 : Hid (w9.heap[w.heap.size + 1 + 1 + 1 + 1]? = some (.cells #[.slice A (viewTo C l ps pre.length).length c8] 22 (0, 0))) := by
      show _ = _
      rw [q2.block _ (by simp; omega) (fun e => by have := (HRZ.out.lt _ e.symm).1; omega), Below.heap_alloc _ _ _ h8z]
      exact H4.out
     have h8' : w9.cell? ⟨w.heap.size + 1 + 1 + 1 + 1, 0, none⟩ = some (.slice A (viewTo C l ps pre.length).length c8) := (cell_of_row _ _ 0 _ _ _ H49.out).trans rfl
     have f8' : w9.frozen? ⟨w.heap.size + 1 + 1 + 1 + 1, 0, none⟩ = false := frozen_of_row H49.out 0
     have HQ1 := Lib.hid q1
     have HQ2 := Lib.hid q2
     have HQ3 := Lib.hid q3
     clear q1 q2 q3
     gi_wp2
     have hh := HI.out.app HZB.out HVW.out H4V.out HRV.out HQ1.out HQ2.out HQ3.out
     simp only [List.length_append, List.length_cons, List.length_nil, Nat.zero_add] at hh
     rw [HSZ.out]
     exact hh
 case leave =>
  rintro ll pre x W b hIv ⟨hok, her⟩ hb hbx
  obtain ⟨xst, xs, ⟨⟨xhA, xhc⟩, ⟨xuA, xuc⟩, ⟨xmA, xmc⟩⟩, xer⟩ := x
  simp only at her hbx
  have c0 : W.cell? ⟨b, 0, none⟩ = some (.int .i64 xst) := (cell_of_row _ _ 0 _ _ _ hbx).trans rfl
  have c1 : W.cell? ⟨b, 1, none⟩ = some (.int .i64 xs.day) := (cell_of_row _ _ 1 _ _ _ hbx).trans rfl
  have c2 : W.cell? ⟨b, 2, none⟩ = some (.slice xhA xs.holders.length xhc) := (cell_of_row _ _ 2 _ _ _ hbx).trans rfl
  have c3 : W.cell? ⟨b, 3, none⟩ = some (.slice xuA xs.used.length xuc) := (cell_of_row _ _ 3 _ _ _ hbx).trans rfl
  have c4 : W.cell? ⟨b, 4, none⟩ = some (.slice xmA xs.marks.length xmc) := (cell_of_row _ _ 4 _ _ _ hbx).trans rfl
  have HI := Lib.hid hIv
  obtain ⟨hok1, hok2, hok3, hok4, hok5⟩ := hok
  simp only at hok1 hok2 hok3 hok4
  have HO1 := Lib.hid hok1
  have HO2 := Lib.hid hok2
  have HO3 := Lib.hid hok3
  have HO4 := Lib.hid hok4
  clear hIv hok1 hok2 hok3 hok4 hok5 hbx
  have h2 : W.cell? ⟨w.heap.size + 1 + 1, 0, none⟩ = some (.slice none 0 0) := (cell_of_row _ _ 0 _ _ _ HI.out.b2).trans rfl
  have h3 : W.cell? ⟨w.heap.size + 1 + 1 + 1, 0, none⟩ = some (.int .i64 0) := (cell_of_row _ _ 0 _ _ _ HI.out.b3).trans rfl
  have f2 : W.frozen? ⟨w.heap.size + 1 + 1, 0, none⟩ = false := frozen_of_row HI.out.b2 0
  have f3 : W.frozen? ⟨w.heap.size + 1 + 1 + 1, 0, none⟩ = false := frozen_of_row HI.out.b3 0
  have HER := Lib.hid her
  gi_wp2
  refine ⟨?_, ?_⟩
  · refine KeepsFrom.of_upd (Z := fun k => k = w.heap.size + 1 + 1 ∨ k = w.heap.size + 1 + 1 + 1) (((Upd.refl _ W).setCell (.inl (.inl rfl)) _).setCell (.inl (.inr rfl)) _) (fun k o hz hB ho => ?_)
    have := HSZ.out
    rcases hz with e | e <;> omega
  · have hx2 := row1_set (x := .slice none 0 0) HI.out.b2
    have hx3 : (W.setCell ⟨w.heap.size + 1 + 1, 0, none⟩ (.slice none 0 0)).heap[w.heap.size + 1 + 1 + 1]? = some (.cells #[.int .i64 0] 35 (0, 0)) := by rw [Below.heap_setCell _ _ _ _ (by simp only; omega)]; exact HI.out.b3
    refine ⟨?_, ?_, xer, HER.out, row1_set hx3⟩
    · exact HI.out.below.trans ((((Upd.refl (fun k => k = w.heap.size + 1 + 1 ∨ k = w.heap.size + 1 + 1 + 1) W).setCell (.inl (.inl rfl)) _).setCell (.inl (.inr rfl)) _).below HI.out.below.size (fun k e => by rcases e with e | e <;> omega))
    · rw [Below.heap_setCell _ _ _ _ (by simp only; omega)]; exact hx2
 case done =>
  rintro D xs W hD ⟨hlen, hleg⟩ hIv hK
  have HI := Lib.hid hIv
  have HLEG := Lib.hid hleg
  clear hIv hleg
  obtain ⟨A, c8, h4V, hrV⟩ := HI.out.row
  rw [hlen] at h4V hrV
  obtain ⟨A9, c9, hv9, hAt⟩ := ownsRow_at hrV (by intro u hu; simp only [ints, List.mem_map] at hu; obtain ⟨_, _, rfl⟩ := hu; rfl)
  have HAT : Hid (At W 1 A (viewTo C l ps l.length).length c8 (ints (viewTo C l ps l.length))) := by injection hv9 with e1 _ e2; rw [e1, e2]; exact hAt
  have HNS : Hid (NewSV (w.heap.size + 1 + 1 + 1 + 1 + 1 + 1 + 1) ⟨A, c8⟩) := fun b off e => (hrV.lt b (by simp only at e; rw [e]; rfl)).1
  clear hv9 hAt
  have h2 : W.cell? ⟨w.heap.size + 1 + 1, 0, none⟩ = some (.slice none 0 0) := (cell_of_row _ _ 0 _ _ _ HI.out.b2).trans rfl
  have h3 : W.cell? ⟨w.heap.size + 1 + 1 + 1, 0, none⟩ = some (.int .i64 0) := (cell_of_row _ _ 0 _ _ _ HI.out.b3).trans rfl
  have h4 : W.cell? ⟨w.heap.size + 1 + 1 + 1 + 1, 0, none⟩ = some (.slice A (viewTo C l ps l.length).length c8) := (cell_of_row _ _ 0 _ _ _ h4V).trans rfl
  have f2 : W.frozen? ⟨w.heap.size + 1 + 1, 0, none⟩ = false := frozen_of_row HI.out.b2 0
  have f3 : W.frozen? ⟨w.heap.size + 1 + 1 + 1, 0, none⟩ = false := frozen_of_row HI.out.b3 0
  have HD : Hid (w.heap.size + 1 + 1 + 1 + 1 + 1 + 1 + 1 ≤ D) := by show _ ≤ _; rw [← HSZ.out]; exact hD
  have HK := Lib.hid hK
  generalize hvv : viewTo C l ps l.length = r at h4 HAT
  have HVV := Lib.hid hvv
  clear hK hD h4V hrV hlen hvv
  gi_wp2
  obtain ⟨Wf, HWf⟩ : ∃ Wf, Hid (Wf = (W.setCell ⟨w.heap.size + 1 + 1, 0, none⟩ (.slice A r.length c8)).setCell ⟨w.heap.size + 1 + 1 + 1, 0, none⟩ (.int .i64 0)) := ⟨_, rfl⟩
  rw [← HWf.out]
  have hu : Upd (fun k => k = w.heap.size + 1 + 1 ∨ k = w.heap.size + 1 + 1 + 1) W Wf := by rw [HWf.out]; exact ((Upd.refl _ W).setCell (.inl (.inl rfl)) _).setCell (.inl (.inr rfl)) _
  have hx2 : Wf.heap[w.heap.size + 1 + 1]? = some (.cells #[.slice A r.length c8] 22 (0, 0)) := by rw [HWf.out, Below.heap_setCell _ _ _ _ (by simp only; omega)]; exact row1_set HI.out.b2
  have hx3 : Wf.heap[w.heap.size + 1 + 1 + 1]? = some (.cells #[.int .i64 0] 35 (0, 0)) := by rw [HWf.out]; exact row1_set (by rw [Below.heap_setCell _ _ _ _ (by simp only; omega)]; exact HI.out.b3)
  have hKf : Wf.heap[D]? = some (.deferred (some [])) := hu.keep HK.out (fun e => by have := HD.out; rcases e with e | e <;> omega)
  refine ⟨by simp, .inl ⟨_, _, rfl, run_takeDeferred hKf, ?_⟩⟩
  have hut : Upd (fun k => k = D) Wf (Wf.putObj D (.deferred none)) := ⟨rfl, rfl, rfl, by simp [World.putObj], fun k _ hn => World.putObj_heap_other hn⟩
  have y2 : (Wf.putObj D (.deferred none)).cell? ⟨w.heap.size + 1 + 1, 0, none⟩ = some (.slice A r.length c8) := (cell_of_row _ _ 0 _ _ _ (hut.keep hx2 (by have := HD.out; omega))).trans rfl
  have y3 : (Wf.putObj D (.deferred none)).cell? ⟨w.heap.size + 1 + 1 + 1, 0, none⟩ = some (.int .i64 0) := (cell_of_row _ _ 0 _ _ _ (hut.keep hx3 (by have := HD.out; omega))).trans rfl
  refine ⟨.tuple #[.slice A r.length c8, .int .i64 0], by simp [results, Tryz.results77, go_sem, y2, y3], A, c8, r, 0, rfl, ?_, .inl ⟨rfl, HLEG.out, HVV.out.symm, ?_⟩⟩
  · exact (HI.out.below.trans (hu.below HI.out.below.size (fun k e => by rcases e with e | e <;> omega))).trans (hut.below (by have := hu.size; have := HI.out.below.size; omega) (fun k e => by have := HD.out; omega))
  · exact (HAT.out.updLow (by omega) HNS.out hu (fun k e => by rcases e with e | e <;> omega)).updC hut (fun k e => by subst e; exact ⟨_, hKf, rfl⟩)
 case stop =>
  rintro D xs W hD hSL ⟨h1, h2, er, h3, h4⟩ hK
  have HD : Hid (w.heap.size + 1 + 1 + 1 + 1 + 1 + 1 + 1 ≤ D) := by show _ ≤ _; rw [← HSZ.out]; exact hD
  have HK := Lib.hid hK
  have H1 := Lib.hid h1
  have H3 := Lib.hid h3
  have H4 := Lib.hid h4
  have H2 := Lib.hid h2
  have HSL := Lib.hid hSL
  clear hD hK h1 h2 h3 h4 hSL
  gi_wp2
  refine ⟨by simp, .inl ⟨_, _, rfl, run_takeDeferred HK.out, ?_⟩⟩
  have hut : Upd (fun k => k = D) W (W.putObj D (.deferred none)) := ⟨rfl, rfl, rfl, by simp [World.putObj], fun k _ hn => World.putObj_heap_other hn⟩
  have y2 : (W.putObj D (.deferred none)).cell? ⟨w.heap.size + 1 + 1, 0, none⟩ = some (.slice none 0 0) := (cell_of_row _ _ 0 _ _ _ (hut.keep H2.out (by have := HD.out; omega))).trans rfl
  have y3 : (W.putObj D (.deferred none)).cell? ⟨w.heap.size + 1 + 1 + 1, 0, none⟩ = some (.int .i64 er) := (cell_of_row _ _ 0 _ _ _ (hut.keep H4.out (by have := HD.out; omega))).trans rfl
  refine ⟨.tuple #[.slice none 0 0, .int .i64 er], by simp [results, Tryz.results77, go_sem, y2, y3], none, 0, [], er, rfl, ?_, .inr ⟨H3.out, rfl, rfl, rfl, HSL.out⟩⟩
  exact H1.out.trans (hut.below H1.out.size (fun k e => by have := HD.out; have := H1.out.size; omega))
end Go.Proofs.YtaielhafpmjkaaaGreatDoor
