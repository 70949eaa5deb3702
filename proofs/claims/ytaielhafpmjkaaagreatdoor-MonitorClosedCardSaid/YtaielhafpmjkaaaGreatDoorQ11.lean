/-
  Sys1
-/
import Derived.Test.YtaielhafpmjkaaaGreatDoorQ03
import Derived.Test.YtaielhafpmjkaaaGreatDoorQ04
namespace Go.Proofs.YtaielhafpmjkaaaGreatDoor
open Go.RowKit
def okRunB (C : KCon) (ki ne pa : Int) (wa : Bool) (ml mg mb : Int) (mp : Bool) : Bool := (cond (wa || (decide (ml < 1) || (mp && (pa == -1)))) false (cond ((!(mg == 0)) && ((!(ki == 1)) || (decide (mg < 0) || decide (ne ≤ mg)))) false (cond (ki == 4) (mb == -1) (decide (0 ≤ mb) && decide (mb < C.parties)))))
set_option maxRecDepth 100000 in
set_option maxHeartbeats 4000000 in
theorem validRun_raw (v : CV) (C : KCon) (ki ro ac ne : Int) (st : SV) (sl : Nat) (af gr : Int) (bu fi : Bool) (pa re vn vd un tg : Int) (wa : Bool) (ms ml mg mb : Int) (mp : Bool) (w : World) : Calls Tryz.prog 62 #[v.val C, .agg #[.int .i64 ki, .int .i64 ro, .int .i64 ac, .int .i64 ne, .slice st.A sl st.c, .int .i64 af, .int .i64 gr, .bool bu, .bool fi, .int .i64 pa, .int .i64 re, .int .i64 vn, .int .i64 vd, .int .i64 un, .int .i64 tg, .bool wa], .agg #[.int .i64 ms, .int .i64 ml, .int .i64 mg, .int .i64 mb, .bool mp]] w (RetB (.bool (okRunB C ki ne pa wa ml mg mb mp)) w) := by
 unfold CV.val CV.cells
 generalize hE : okRunB C ki ne pa wa ml mg mb mp = E
 go_enter Tryz.func62, Tryz.ntmps62
 go_upto_region 1 with (fail)
 obtain ⟨W0, HW0⟩ : ∃ W0, Hid (W0 = ((w.alloc (.cells #[.int .i64 C.parties, .slice v.h.A C.holders.length v.h.c, .slice v.u.A C.units.length v.u.c, .slice v.a.A C.acts.length v.a.c, .slice v.k.A C.clauses.length v.k.c, .int .i64 C.days, .slice v.o.A C.off.length v.o.c] 27)).alloc (.cells #[.int .i64 ki, .int .i64 ro, .int .i64 ac, .int .i64 ne, .slice st.A sl st.c, .int .i64 af, .int .i64 gr, .bool bu, .bool fi, .int .i64 pa, .int .i64 re, .int .i64 vn, .int .i64 vd, .int .i64 un, .int .i64 tg, .bool wa] 90)).alloc (.cells #[.int .i64 ms, .int .i64 ml, .int .i64 mg, .int .i64 mb, .bool mp] 57)) := ⟨_, rfl⟩
 have hh0 : W0.heap[w.heap.size]? = some (.cells #[.int .i64 C.parties, .slice v.h.A C.holders.length v.h.c, .slice v.u.A C.units.length v.u.c, .slice v.a.A C.acts.length v.a.c, .slice v.k.A C.clauses.length v.k.c, .int .i64 C.days, .slice v.o.A C.off.length v.o.c] 27 (0, 0)) := by rw [HW0.out]; exact (Below.heap_alloc ((w.alloc (.cells #[.int .i64 C.parties, .slice v.h.A C.holders.length v.h.c, .slice v.u.A C.units.length v.u.c, .slice v.a.A C.acts.length v.a.c, .slice v.k.A C.clauses.length v.k.c, .int .i64 C.days, .slice v.o.A C.off.length v.o.c] 27)).alloc (.cells #[.int .i64 ki, .int .i64 ro, .int .i64 ac, .int .i64 ne, .slice st.A sl st.c, .int .i64 af, .int .i64 gr, .bool bu, .bool fi, .int .i64 pa, .int .i64 re, .int .i64 vn, .int .i64 vd, .int .i64 un, .int .i64 tg, .bool wa] 90)) _ (w.heap.size) (by simp only [World.size_alloc]; omega)).trans ((Below.heap_alloc (w.alloc (.cells #[.int .i64 C.parties, .slice v.h.A C.holders.length v.h.c, .slice v.u.A C.units.length v.u.c, .slice v.a.A C.acts.length v.a.c, .slice v.k.A C.clauses.length v.k.c, .int .i64 C.days, .slice v.o.A C.off.length v.o.c] 27)) _ (w.heap.size) (by simp)).trans (heap_alloc_new w (.cells #[.int .i64 C.parties, .slice v.h.A C.holders.length v.h.c, .slice v.u.A C.units.length v.u.c, .slice v.a.A C.acts.length v.a.c, .slice v.k.A C.clauses.length v.k.c, .int .i64 C.days, .slice v.o.A C.off.length v.o.c] 27)))
 have k0_0 : ∀ s : Bl W0, s.val.cell? ⟨w.heap.size, 0, none⟩ = some (.int .i64 C.parties) := fun s => s.cell ((cell_of_row W0 _ 0 _ _ _ hh0).trans rfl)
 have k0_1 : ∀ s : Bl W0, s.val.cell? ⟨w.heap.size, 1, none⟩ = some (.slice v.h.A C.holders.length v.h.c) := fun s => s.cell ((cell_of_row W0 _ 1 _ _ _ hh0).trans rfl)
 have k0_2 : ∀ s : Bl W0, s.val.cell? ⟨w.heap.size, 2, none⟩ = some (.slice v.u.A C.units.length v.u.c) := fun s => s.cell ((cell_of_row W0 _ 2 _ _ _ hh0).trans rfl)
 have k0_3 : ∀ s : Bl W0, s.val.cell? ⟨w.heap.size, 3, none⟩ = some (.slice v.a.A C.acts.length v.a.c) := fun s => s.cell ((cell_of_row W0 _ 3 _ _ _ hh0).trans rfl)
 have k0_4 : ∀ s : Bl W0, s.val.cell? ⟨w.heap.size, 4, none⟩ = some (.slice v.k.A C.clauses.length v.k.c) := fun s => s.cell ((cell_of_row W0 _ 4 _ _ _ hh0).trans rfl)
 have k0_5 : ∀ s : Bl W0, s.val.cell? ⟨w.heap.size, 5, none⟩ = some (.int .i64 C.days) := fun s => s.cell ((cell_of_row W0 _ 5 _ _ _ hh0).trans rfl)
 have k0_6 : ∀ s : Bl W0, s.val.cell? ⟨w.heap.size, 6, none⟩ = some (.slice v.o.A C.off.length v.o.c) := fun s => s.cell ((cell_of_row W0 _ 6 _ _ _ hh0).trans rfl)
 clear hh0
 have hh1 : W0.heap[w.heap.size + 1]? = some (.cells #[.int .i64 ki, .int .i64 ro, .int .i64 ac, .int .i64 ne, .slice st.A sl st.c, .int .i64 af, .int .i64 gr, .bool bu, .bool fi, .int .i64 pa, .int .i64 re, .int .i64 vn, .int .i64 vd, .int .i64 un, .int .i64 tg, .bool wa] 90 (0, 0)) := by rw [HW0.out]; exact (Below.heap_alloc ((w.alloc (.cells #[.int .i64 C.parties, .slice v.h.A C.holders.length v.h.c, .slice v.u.A C.units.length v.u.c, .slice v.a.A C.acts.length v.a.c, .slice v.k.A C.clauses.length v.k.c, .int .i64 C.days, .slice v.o.A C.off.length v.o.c] 27)).alloc (.cells #[.int .i64 ki, .int .i64 ro, .int .i64 ac, .int .i64 ne, .slice st.A sl st.c, .int .i64 af, .int .i64 gr, .bool bu, .bool fi, .int .i64 pa, .int .i64 re, .int .i64 vn, .int .i64 vd, .int .i64 un, .int .i64 tg, .bool wa] 90)) _ (w.heap.size + 1) (by simp)).trans ((by have h := heap_alloc_new (w.alloc (.cells #[.int .i64 C.parties, .slice v.h.A C.holders.length v.h.c, .slice v.u.A C.units.length v.u.c, .slice v.a.A C.acts.length v.a.c, .slice v.k.A C.clauses.length v.k.c, .int .i64 C.days, .slice v.o.A C.off.length v.o.c] 27)) (.cells #[.int .i64 ki, .int .i64 ro, .int .i64 ac, .int .i64 ne, .slice st.A sl st.c, .int .i64 af, .int .i64 gr, .bool bu, .bool fi, .int .i64 pa, .int .i64 re, .int .i64 vn, .int .i64 vd, .int .i64 un, .int .i64 tg, .bool wa] 90); simp only [World.size_alloc] at h; exact h))
 have k1_0 : ∀ s : Bl W0, s.val.cell? ⟨w.heap.size + 1, 0, none⟩ = some (.int .i64 ki) := fun s => s.cell ((cell_of_row W0 _ 0 _ _ _ hh1).trans rfl)
 have k1_1 : ∀ s : Bl W0, s.val.cell? ⟨w.heap.size + 1, 1, none⟩ = some (.int .i64 ro) := fun s => s.cell ((cell_of_row W0 _ 1 _ _ _ hh1).trans rfl)
 have k1_2 : ∀ s : Bl W0, s.val.cell? ⟨w.heap.size + 1, 2, none⟩ = some (.int .i64 ac) := fun s => s.cell ((cell_of_row W0 _ 2 _ _ _ hh1).trans rfl)
 have k1_3 : ∀ s : Bl W0, s.val.cell? ⟨w.heap.size + 1, 3, none⟩ = some (.int .i64 ne) := fun s => s.cell ((cell_of_row W0 _ 3 _ _ _ hh1).trans rfl)
 have k1_4 : ∀ s : Bl W0, s.val.cell? ⟨w.heap.size + 1, 4, none⟩ = some (.slice st.A sl st.c) := fun s => s.cell ((cell_of_row W0 _ 4 _ _ _ hh1).trans rfl)
 have k1_5 : ∀ s : Bl W0, s.val.cell? ⟨w.heap.size + 1, 5, none⟩ = some (.int .i64 af) := fun s => s.cell ((cell_of_row W0 _ 5 _ _ _ hh1).trans rfl)
 have k1_6 : ∀ s : Bl W0, s.val.cell? ⟨w.heap.size + 1, 6, none⟩ = some (.int .i64 gr) := fun s => s.cell ((cell_of_row W0 _ 6 _ _ _ hh1).trans rfl)
 have k1_7 : ∀ s : Bl W0, s.val.cell? ⟨w.heap.size + 1, 7, none⟩ = some (.bool bu) := fun s => s.cell ((cell_of_row W0 _ 7 _ _ _ hh1).trans rfl)
 have k1_8 : ∀ s : Bl W0, s.val.cell? ⟨w.heap.size + 1, 8, none⟩ = some (.bool fi) := fun s => s.cell ((cell_of_row W0 _ 8 _ _ _ hh1).trans rfl)
 have k1_9 : ∀ s : Bl W0, s.val.cell? ⟨w.heap.size + 1, 9, none⟩ = some (.int .i64 pa) := fun s => s.cell ((cell_of_row W0 _ 9 _ _ _ hh1).trans rfl)
 have k1_10 : ∀ s : Bl W0, s.val.cell? ⟨w.heap.size + 1, 10, none⟩ = some (.int .i64 re) := fun s => s.cell ((cell_of_row W0 _ 10 _ _ _ hh1).trans rfl)
 have k1_11 : ∀ s : Bl W0, s.val.cell? ⟨w.heap.size + 1, 11, none⟩ = some (.int .i64 vn) := fun s => s.cell ((cell_of_row W0 _ 11 _ _ _ hh1).trans rfl)
 have k1_12 : ∀ s : Bl W0, s.val.cell? ⟨w.heap.size + 1, 12, none⟩ = some (.int .i64 vd) := fun s => s.cell ((cell_of_row W0 _ 12 _ _ _ hh1).trans rfl)
 have k1_13 : ∀ s : Bl W0, s.val.cell? ⟨w.heap.size + 1, 13, none⟩ = some (.int .i64 un) := fun s => s.cell ((cell_of_row W0 _ 13 _ _ _ hh1).trans rfl)
 have k1_14 : ∀ s : Bl W0, s.val.cell? ⟨w.heap.size + 1, 14, none⟩ = some (.int .i64 tg) := fun s => s.cell ((cell_of_row W0 _ 14 _ _ _ hh1).trans rfl)
 have k1_15 : ∀ s : Bl W0, s.val.cell? ⟨w.heap.size + 1, 15, none⟩ = some (.bool wa) := fun s => s.cell ((cell_of_row W0 _ 15 _ _ _ hh1).trans rfl)
 clear hh1
 have hh2 : W0.heap[w.heap.size + 1 + 1]? = some (.cells #[.int .i64 ms, .int .i64 ml, .int .i64 mg, .int .i64 mb, .bool mp] 57 (0, 0)) := by rw [HW0.out]; exact (by have h := heap_alloc_new ((w.alloc (.cells #[.int .i64 C.parties, .slice v.h.A C.holders.length v.h.c, .slice v.u.A C.units.length v.u.c, .slice v.a.A C.acts.length v.a.c, .slice v.k.A C.clauses.length v.k.c, .int .i64 C.days, .slice v.o.A C.off.length v.o.c] 27)).alloc (.cells #[.int .i64 ki, .int .i64 ro, .int .i64 ac, .int .i64 ne, .slice st.A sl st.c, .int .i64 af, .int .i64 gr, .bool bu, .bool fi, .int .i64 pa, .int .i64 re, .int .i64 vn, .int .i64 vd, .int .i64 un, .int .i64 tg, .bool wa] 90)) (.cells #[.int .i64 ms, .int .i64 ml, .int .i64 mg, .int .i64 mb, .bool mp] 57); simp only [World.size_alloc] at h; exact h)
 have k2_0 : ∀ s : Bl W0, s.val.cell? ⟨w.heap.size + 1 + 1, 0, none⟩ = some (.int .i64 ms) := fun s => s.cell ((cell_of_row W0 _ 0 _ _ _ hh2).trans rfl)
 have k2_1 : ∀ s : Bl W0, s.val.cell? ⟨w.heap.size + 1 + 1, 1, none⟩ = some (.int .i64 ml) := fun s => s.cell ((cell_of_row W0 _ 1 _ _ _ hh2).trans rfl)
 have k2_2 : ∀ s : Bl W0, s.val.cell? ⟨w.heap.size + 1 + 1, 2, none⟩ = some (.int .i64 mg) := fun s => s.cell ((cell_of_row W0 _ 2 _ _ _ hh2).trans rfl)
 have k2_3 : ∀ s : Bl W0, s.val.cell? ⟨w.heap.size + 1 + 1, 3, none⟩ = some (.int .i64 mb) := fun s => s.cell ((cell_of_row W0 _ 3 _ _ _ hh2).trans rfl)
 have k2_4 : ∀ s : Bl W0, s.val.cell? ⟨w.heap.size + 1 + 1, 4, none⟩ = some (.bool mp) := fun s => s.cell ((cell_of_row W0 _ 4 _ _ _ hh2).trans rfl)
 clear hh2
 have HB : Hid (Below w.heap.size w W0) := by show Below _ _ _; rw [HW0.out]; exact Below.alloc' (Below.alloc' (Below.alloc' (Below.refl _ _) _) _) _
 rw [← HW0.out]
 change Code.wp _ _ _ _ (Bl.val (⟨W0, Below.refl _ _⟩ : Bl W0))
 generalize (⟨W0, Below.refl _ _⟩ : Bl W0) = s0
 focus
  cases q1 : wa
  focus
   cases q2 : decide (ml < 1)
   focus
    cases q3 : mp
    focus
     cases q4 : (mg == 0)
     focus
      have q4_0 : (mg != 0) = true := by simpa using q4
      cases q5 : (ki == 1)
      focus
       have q5_0 : (ki != 1) = true := by simpa using q5
       obtain rfl : E = false := by rw [← hE]; unfold okRunB; rw [q1, q2, q3, q4, q5]; rfl
       clear hE
      rotate_left
      focus
       have q5_0 : (ki != 1) = false := by simpa using q5
       cases q6 : decide (mg < 0)
       focus
        cases q7 : decide (ne ≤ mg)
        focus
         cases q8 : (ki == 4)
         focus
          have q8_0 : (ki != 4) = true := by simpa using q8
          cases q9 : decide (0 ≤ mb)
          focus
           obtain rfl : E = false := by rw [← hE]; unfold okRunB; rw [q1, q2, q3, q4, q5, q6, q7, q8, q9]; rfl
           clear hE
          rotate_left
          focus
           cases q10 : decide (mb < C.parties)
           focus
            obtain rfl : E = false := by rw [← hE]; unfold okRunB; rw [q1, q2, q3, q4, q5, q6, q7, q8, q9, q10]; rfl
            clear hE
           rotate_left
           focus
            obtain rfl : E = true := by rw [← hE]; unfold okRunB; rw [q1, q2, q3, q4, q5, q6, q7, q8, q9, q10]; rfl
            clear hE
         rotate_left 3
         focus
          have q8_0 : (ki != 4) = false := by simpa using q8
          cases q9 : (mb == -1)
          focus
           have q9_0 : (mb != -1) = true := by simpa using q9
           obtain rfl : E = false := by rw [← hE]; unfold okRunB; rw [q1, q2, q3, q4, q5, q6, q7, q8, q9]; rfl
           clear hE
          rotate_left
          focus
           have q9_0 : (mb != -1) = false := by simpa using q9
           obtain rfl : E = true := by rw [← hE]; unfold okRunB; rw [q1, q2, q3, q4, q5, q6, q7, q8, q9]; rfl
           clear hE
        rotate_left 5
        focus
         obtain rfl : E = false := by rw [← hE]; unfold okRunB; rw [q1, q2, q3, q4, q5, q6, q7]; rfl
         clear hE
       rotate_left 6
       focus
        obtain rfl : E = false := by rw [← hE]; unfold okRunB; rw [q1, q2, q3, q4, q5, q6]; rfl
        clear hE
     rotate_left 8
     focus
      have q4_0 : (mg != 0) = false := by simpa using q4
      cases q5 : (ki == 4)
      focus
       have q5_0 : (ki != 4) = true := by simpa using q5
       cases q6 : decide (0 ≤ mb)
       focus
        obtain rfl : E = false := by rw [← hE]; unfold okRunB; rw [q1, q2, q3, q4, q5, q6]; rfl
        clear hE
       rotate_left
       focus
        cases q7 : decide (mb < C.parties)
        focus
         obtain rfl : E = false := by rw [← hE]; unfold okRunB; rw [q1, q2, q3, q4, q5, q6, q7]; rfl
         clear hE
        rotate_left
        focus
         obtain rfl : E = true := by rw [← hE]; unfold okRunB; rw [q1, q2, q3, q4, q5, q6, q7]; rfl
         clear hE
      rotate_left 3
      focus
       have q5_0 : (ki != 4) = false := by simpa using q5
       cases q6 : (mb == -1)
       focus
        have q6_0 : (mb != -1) = true := by simpa using q6
        obtain rfl : E = false := by rw [← hE]; unfold okRunB; rw [q1, q2, q3, q4, q5, q6]; rfl
        clear hE
       rotate_left
       focus
        have q6_0 : (mb != -1) = false := by simpa using q6
        obtain rfl : E = true := by rw [← hE]; unfold okRunB; rw [q1, q2, q3, q4, q5, q6]; rfl
        clear hE
    rotate_left 13
    focus
     cases q4 : (pa == -1)
     focus
      have q4_0 : (pa != -1) = true := by simpa using q4
      cases q5 : (mg == 0)
      focus
       have q5_0 : (mg != 0) = true := by simpa using q5
       cases q6 : (ki == 1)
       focus
        have q6_0 : (ki != 1) = true := by simpa using q6
        obtain rfl : E = false := by rw [← hE]; unfold okRunB; rw [q1, q2, q3, q4, q5, q6]; rfl
        clear hE
       rotate_left
       focus
        have q6_0 : (ki != 1) = false := by simpa using q6
        cases q7 : decide (mg < 0)
        focus
         cases q8 : decide (ne ≤ mg)
         focus
          cases q9 : (ki == 4)
          focus
           have q9_0 : (ki != 4) = true := by simpa using q9
           cases q10 : decide (0 ≤ mb)
           focus
            obtain rfl : E = false := by rw [← hE]; unfold okRunB; rw [q1, q2, q3, q4, q5, q6, q7, q8, q9, q10]; rfl
            clear hE
           rotate_left
           focus
            cases q11 : decide (mb < C.parties)
            focus
             obtain rfl : E = false := by rw [← hE]; unfold okRunB; rw [q1, q2, q3, q4, q5, q6, q7, q8, q9, q10, q11]; rfl
             clear hE
            rotate_left
            focus
             obtain rfl : E = true := by rw [← hE]; unfold okRunB; rw [q1, q2, q3, q4, q5, q6, q7, q8, q9, q10, q11]; rfl
             clear hE
          rotate_left 3
          focus
           have q9_0 : (ki != 4) = false := by simpa using q9
           cases q10 : (mb == -1)
           focus
            have q10_0 : (mb != -1) = true := by simpa using q10
            obtain rfl : E = false := by rw [← hE]; unfold okRunB; rw [q1, q2, q3, q4, q5, q6, q7, q8, q9, q10]; rfl
            clear hE
           rotate_left
           focus
            have q10_0 : (mb != -1) = false := by simpa using q10
            obtain rfl : E = true := by rw [← hE]; unfold okRunB; rw [q1, q2, q3, q4, q5, q6, q7, q8, q9, q10]; rfl
            clear hE
         rotate_left 5
         focus
          obtain rfl : E = false := by rw [← hE]; unfold okRunB; rw [q1, q2, q3, q4, q5, q6, q7, q8]; rfl
          clear hE
        rotate_left 6
        focus
         obtain rfl : E = false := by rw [← hE]; unfold okRunB; rw [q1, q2, q3, q4, q5, q6, q7]; rfl
         clear hE
      rotate_left 8
      focus
       have q5_0 : (mg != 0) = false := by simpa using q5
       cases q6 : (ki == 4)
       focus
        have q6_0 : (ki != 4) = true := by simpa using q6
        cases q7 : decide (0 ≤ mb)
        focus
         obtain rfl : E = false := by rw [← hE]; unfold okRunB; rw [q1, q2, q3, q4, q5, q6, q7]; rfl
         clear hE
        rotate_left
        focus
         cases q8 : decide (mb < C.parties)
         focus
          obtain rfl : E = false := by rw [← hE]; unfold okRunB; rw [q1, q2, q3, q4, q5, q6, q7, q8]; rfl
          clear hE
         rotate_left
         focus
          obtain rfl : E = true := by rw [← hE]; unfold okRunB; rw [q1, q2, q3, q4, q5, q6, q7, q8]; rfl
          clear hE
       rotate_left 3
       focus
        have q6_0 : (ki != 4) = false := by simpa using q6
        cases q7 : (mb == -1)
        focus
         have q7_0 : (mb != -1) = true := by simpa using q7
         obtain rfl : E = false := by rw [← hE]; unfold okRunB; rw [q1, q2, q3, q4, q5, q6, q7]; rfl
         clear hE
        rotate_left
        focus
         have q7_0 : (mb != -1) = false := by simpa using q7
         obtain rfl : E = true := by rw [← hE]; unfold okRunB; rw [q1, q2, q3, q4, q5, q6, q7]; rfl
         clear hE
     rotate_left 13
     focus
      have q4_0 : (pa != -1) = false := by simpa using q4
      obtain rfl : E = false := by rw [← hE]; unfold okRunB; rw [q1, q2, q3, q4]; rfl
      clear hE
   rotate_left 27
   focus
    obtain rfl : E = false := by rw [← hE]; unfold okRunB; rw [q1, q2]; rfl
    clear hE
  rotate_left 28
  focus
   obtain rfl : E = false := by rw [← hE]; unfold okRunB; rw [q1]; rfl
   clear hE
  all_goals
   go_wp2_with (first | fail)
   first
    | (go_ret; exact ⟨rfl, Below.step HB.out (Bl.prop _)⟩)
    | (refine wp_region_bl (by kernel_rfl) (by kernel_rfl) ?_; (repeat (go_big_quiet_step ((first | fail)))); refine wpQuiet_nil ?_; rintro _ ⟨zq, rfl⟩; go_wp2_with (first | fail); go_ret; exact ⟨rfl, Below.step HB.out (Bl.prop _)⟩)
def mark0B (ms ml mg mb : Int) (mp : Bool) : Bool := (ms == 0) && ((ml == 0) && ((mg == 0) && ((mb == -1) && !mp)))
theorem run_eql_mark0 (w : World) (ms ml mg mb : Int) (mp : Bool) : (binOp .eql 57 (.agg #[.int .i64 ms, .int .i64 ml, .int .i64 mg, .int .i64 mb, .bool mp]) (.agg #[.int .i64 0, .int .i64 0, .int .i64 0, .int .i64 (-1), .bool false])).run Tryz.prog w = .ok (.bool (mark0B ms ml mg mb mp)) w := by
 rw [run_eql_struct]
 go_simp
 unfold mark0B
 by_cases h1 : ms = 0 <;> by_cases h2 : ml = 0 <;> by_cases h3 : mg = 0 <;> by_cases h4 : mb = -1 <;> cases mp <;> simp [h1, h2, h3, h4]
def okMarkB (C : KCon) (ki ne af gr pa : Int) (wa : Bool) (ms ml mg mb : Int) (mp : Bool) : Bool := (cond (ms == 0) ((!wa) && (mark0B ms ml mg mb mp)) (cond (ms == 1) (decide (ml ≤ af) && (okRunB C ki ne pa wa ml mg mb mp)) (cond (ms == 2) ((ki == 1) && (decide (ml ≤ gr) && (okRunB C ki ne pa wa ml mg mb mp))) (cond ((ms == 3) || ((ms == 4) || (ms == 5))) ((ml == 0) && (decide (0 ≤ mg) && (decide (mg ≤ 9) && (decide (-1 ≤ mb) && (decide (mb < C.parties) && (!mp)))))) false))))
def KCon.okMark (C : KCon) (k : KClause) (m : KMark) : Bool := okMarkB C k.kind k.need k.after k.grace k.pause k.waived m.status m.left m.got m.bearer m.paused
set_option maxRecDepth 100000 in
set_option maxHeartbeats 4000000 in
theorem validMark_any (v : CV) (C : KCon) (i : Nat) (k : KClause) (m : KMark) (w : World) (hC : ConAt w v C) (hk : C.clauses[i]? = some k) : Calls Tryz.prog 45 #[v.val C, .int .i64 i, .agg #[.int .i64 m.status, .int .i64 m.left, .int .i64 m.got, .int .i64 m.bearer, .bool m.paused]] w (RetB (.bool (C.okMark k m)) w) := by
 have hil : i < C.clauses.length := (List.getElem?_eq_some_iff.1 hk).1
 obtain ⟨b, off, ⟨stA, stc⟩, hA0, hb, hcell, hst⟩ := hC.clause hk
 obtain ⟨⟨hA, hcp⟩, ⟨uA, ucp⟩, ⟨aA, acp⟩, ⟨kA, kcp⟩, ⟨oA, ocp⟩⟩ := v
 simp only at hA0
 subst hA0
 obtain ⟨ki, ro, ac, ne, start, af, gr, bu, fi, pa, re, ⟨vn, vd⟩, un, tg, wa⟩ := k
 obtain ⟨ms, ml, mg, mb, mp⟩ := m
 generalize hE : C.okMark ⟨ki, ro, ac, ne, start, af, gr, bu, fi, pa, re, ⟨vn, vd⟩, un, tg, wa⟩ ⟨ms, ml, mg, mb, mp⟩ = E
 simp only [KCon.okMark] at hE
 have HE := Lib.hid hE; clear hE
 clear hC hst hk
 simp only [CV.val, CV.cells]
 have heq := fun (w : World) => run_eql_mark0 w ms ml mg mb mp
 have i0 : (0 : Int) ≤ (i : Int) := by omega
 have i1 : (i : Int) < (C.clauses.length : Int) := by omega
 have c0 : w.cell? ⟨b, off + i * 16, none⟩ = some (.int .i64 ki) := hcell w (Below.refl _ _) 0 (by omega)
 have c1 : w.cell? ⟨b, off + i * 16 + 1, none⟩ = some (.int .i64 ro) := hcell w (Below.refl _ _) 1 (by omega)
 have c2 : w.cell? ⟨b, off + i * 16 + 2, none⟩ = some (.int .i64 ac) := hcell w (Below.refl _ _) 2 (by omega)
 have c3 : w.cell? ⟨b, off + i * 16 + 3, none⟩ = some (.int .i64 ne) := hcell w (Below.refl _ _) 3 (by omega)
 have c4 : w.cell? ⟨b, off + i * 16 + 4, none⟩ = some (.slice stA start.length stc) := hcell w (Below.refl _ _) 4 (by omega)
 have c5 : w.cell? ⟨b, off + i * 16 + 5, none⟩ = some (.int .i64 af) := hcell w (Below.refl _ _) 5 (by omega)
 have c6 : w.cell? ⟨b, off + i * 16 + 6, none⟩ = some (.int .i64 gr) := hcell w (Below.refl _ _) 6 (by omega)
 have c7 : w.cell? ⟨b, off + i * 16 + 7, none⟩ = some (.bool bu) := hcell w (Below.refl _ _) 7 (by omega)
 have c8 : w.cell? ⟨b, off + i * 16 + 8, none⟩ = some (.bool fi) := hcell w (Below.refl _ _) 8 (by omega)
 have c9 : w.cell? ⟨b, off + i * 16 + 9, none⟩ = some (.int .i64 pa) := hcell w (Below.refl _ _) 9 (by omega)
 have c10 : w.cell? ⟨b, off + i * 16 + 10, none⟩ = some (.int .i64 re) := hcell w (Below.refl _ _) 10 (by omega)
 have c11 : w.cell? ⟨b, off + i * 16 + 11, none⟩ = some (.int .i64 vn) := hcell w (Below.refl _ _) 11 (by omega)
 have c12 : w.cell? ⟨b, off + i * 16 + 12, none⟩ = some (.int .i64 vd) := hcell w (Below.refl _ _) 12 (by omega)
 have c13 : w.cell? ⟨b, off + i * 16 + 13, none⟩ = some (.int .i64 un) := hcell w (Below.refl _ _) 13 (by omega)
 have c14 : w.cell? ⟨b, off + i * 16 + 14, none⟩ = some (.int .i64 tg) := hcell w (Below.refl _ _) 14 (by omega)
 have c15 : w.cell? ⟨b, off + i * 16 + 15, none⟩ = some (.bool wa) := hcell w (Below.refl _ _) 15 (by omega)
 clear hcell
 have hrn : ∀ W : World, Calls Tryz.prog 62 #[.agg #[.int .i64 C.parties, .slice hA C.holders.length hcp, .slice uA C.units.length ucp, .slice aA C.acts.length acp, .slice (some ⟨b, off, none⟩) C.clauses.length kcp, .int .i64 C.days, .slice oA C.off.length ocp], .agg #[.int .i64 ki, .int .i64 ro, .int .i64 ac, .int .i64 ne, .slice stA start.length stc, .int .i64 af, .int .i64 gr, .bool bu, .bool fi, .int .i64 pa, .int .i64 re, .int .i64 vn, .int .i64 vd, .int .i64 un, .int .i64 tg, .bool wa], .agg #[.int .i64 ms, .int .i64 ml, .int .i64 mg, .int .i64 mb, .bool mp]] W (RetB (.bool (okRunB C ki ne pa wa ml mg mb mp)) W) := fun W => validRun_raw (⟨⟨hA, hcp⟩, ⟨uA, ucp⟩, ⟨aA, acp⟩, ⟨some ⟨b, off, none⟩, kcp⟩, ⟨oA, ocp⟩⟩ : CV) C ki ro ac ne ⟨stA, stc⟩ start.length af gr bu fi pa re vn vd un tg wa ms ml mg mb mp W
 have HRN := Lib.hid hrn; clear hrn
 go_enter Tryz.func45, Tryz.ntmps45
 go_upto_region 2 with (fail)
 obtain ⟨W0, HW0⟩ : ∃ W0, Hid (W0 = ((w.alloc (.cells #[.int .i64 C.parties, .slice hA C.holders.length hcp, .slice uA C.units.length ucp, .slice aA C.acts.length acp, .slice (some ⟨b, off, none⟩) C.clauses.length kcp, .int .i64 C.days, .slice oA C.off.length ocp] 27)).alloc (.cells #[.int .i64 ms, .int .i64 ml, .int .i64 mg, .int .i64 mb, .bool mp] 57)).alloc (.cells #[.int .i64 ki, .int .i64 ro, .int .i64 ac, .int .i64 ne, .slice stA start.length stc, .int .i64 af, .int .i64 gr, .bool bu, .bool fi, .int .i64 pa, .int .i64 re, .int .i64 vn, .int .i64 vd, .int .i64 un, .int .i64 tg, .bool wa] 90)) := ⟨_, rfl⟩
 have hh0 : W0.heap[w.heap.size]? = some (.cells #[.int .i64 C.parties, .slice hA C.holders.length hcp, .slice uA C.units.length ucp, .slice aA C.acts.length acp, .slice (some ⟨b, off, none⟩) C.clauses.length kcp, .int .i64 C.days, .slice oA C.off.length ocp] 27 (0, 0)) := by rw [HW0.out]; exact (Below.heap_alloc ((w.alloc (.cells #[.int .i64 C.parties, .slice hA C.holders.length hcp, .slice uA C.units.length ucp, .slice aA C.acts.length acp, .slice (some ⟨b, off, none⟩) C.clauses.length kcp, .int .i64 C.days, .slice oA C.off.length ocp] 27)).alloc (.cells #[.int .i64 ms, .int .i64 ml, .int .i64 mg, .int .i64 mb, .bool mp] 57)) _ (w.heap.size) (by simp only [World.size_alloc]; omega)).trans ((Below.heap_alloc (w.alloc (.cells #[.int .i64 C.parties, .slice hA C.holders.length hcp, .slice uA C.units.length ucp, .slice aA C.acts.length acp, .slice (some ⟨b, off, none⟩) C.clauses.length kcp, .int .i64 C.days, .slice oA C.off.length ocp] 27)) _ (w.heap.size) (by simp)).trans (heap_alloc_new w (.cells #[.int .i64 C.parties, .slice hA C.holders.length hcp, .slice uA C.units.length ucp, .slice aA C.acts.length acp, .slice (some ⟨b, off, none⟩) C.clauses.length kcp, .int .i64 C.days, .slice oA C.off.length ocp] 27)))
 have k0_0 : ∀ s : Bl W0, s.val.cell? ⟨w.heap.size, 0, none⟩ = some (.int .i64 C.parties) := fun s => s.cell ((cell_of_row W0 _ 0 _ _ _ hh0).trans rfl)
 have k0_1 : ∀ s : Bl W0, s.val.cell? ⟨w.heap.size, 1, none⟩ = some (.slice hA C.holders.length hcp) := fun s => s.cell ((cell_of_row W0 _ 1 _ _ _ hh0).trans rfl)
 have k0_2 : ∀ s : Bl W0, s.val.cell? ⟨w.heap.size, 2, none⟩ = some (.slice uA C.units.length ucp) := fun s => s.cell ((cell_of_row W0 _ 2 _ _ _ hh0).trans rfl)
 have k0_3 : ∀ s : Bl W0, s.val.cell? ⟨w.heap.size, 3, none⟩ = some (.slice aA C.acts.length acp) := fun s => s.cell ((cell_of_row W0 _ 3 _ _ _ hh0).trans rfl)
 have k0_4 : ∀ s : Bl W0, s.val.cell? ⟨w.heap.size, 4, none⟩ = some (.slice (some ⟨b, off, none⟩) C.clauses.length kcp) := fun s => s.cell ((cell_of_row W0 _ 4 _ _ _ hh0).trans rfl)
 have k0_5 : ∀ s : Bl W0, s.val.cell? ⟨w.heap.size, 5, none⟩ = some (.int .i64 C.days) := fun s => s.cell ((cell_of_row W0 _ 5 _ _ _ hh0).trans rfl)
 have k0_6 : ∀ s : Bl W0, s.val.cell? ⟨w.heap.size, 6, none⟩ = some (.slice oA C.off.length ocp) := fun s => s.cell ((cell_of_row W0 _ 6 _ _ _ hh0).trans rfl)
 clear hh0
 have hh1 : W0.heap[w.heap.size + 1]? = some (.cells #[.int .i64 ms, .int .i64 ml, .int .i64 mg, .int .i64 mb, .bool mp] 57 (0, 0)) := by rw [HW0.out]; exact (Below.heap_alloc ((w.alloc (.cells #[.int .i64 C.parties, .slice hA C.holders.length hcp, .slice uA C.units.length ucp, .slice aA C.acts.length acp, .slice (some ⟨b, off, none⟩) C.clauses.length kcp, .int .i64 C.days, .slice oA C.off.length ocp] 27)).alloc (.cells #[.int .i64 ms, .int .i64 ml, .int .i64 mg, .int .i64 mb, .bool mp] 57)) _ (w.heap.size + 1) (by simp)).trans ((by have h := heap_alloc_new (w.alloc (.cells #[.int .i64 C.parties, .slice hA C.holders.length hcp, .slice uA C.units.length ucp, .slice aA C.acts.length acp, .slice (some ⟨b, off, none⟩) C.clauses.length kcp, .int .i64 C.days, .slice oA C.off.length ocp] 27)) (.cells #[.int .i64 ms, .int .i64 ml, .int .i64 mg, .int .i64 mb, .bool mp] 57); simp only [World.size_alloc] at h; exact h))
 have k1_0 : ∀ s : Bl W0, s.val.cell? ⟨w.heap.size + 1, 0, none⟩ = some (.int .i64 ms) := fun s => s.cell ((cell_of_row W0 _ 0 _ _ _ hh1).trans rfl)
 have k1_1 : ∀ s : Bl W0, s.val.cell? ⟨w.heap.size + 1, 1, none⟩ = some (.int .i64 ml) := fun s => s.cell ((cell_of_row W0 _ 1 _ _ _ hh1).trans rfl)
 have k1_2 : ∀ s : Bl W0, s.val.cell? ⟨w.heap.size + 1, 2, none⟩ = some (.int .i64 mg) := fun s => s.cell ((cell_of_row W0 _ 2 _ _ _ hh1).trans rfl)
 have k1_3 : ∀ s : Bl W0, s.val.cell? ⟨w.heap.size + 1, 3, none⟩ = some (.int .i64 mb) := fun s => s.cell ((cell_of_row W0 _ 3 _ _ _ hh1).trans rfl)
 have k1_4 : ∀ s : Bl W0, s.val.cell? ⟨w.heap.size + 1, 4, none⟩ = some (.bool mp) := fun s => s.cell ((cell_of_row W0 _ 4 _ _ _ hh1).trans rfl)
 clear hh1
 have hh2 : W0.heap[w.heap.size + 1 + 1]? = some (.cells #[.int .i64 ki, .int .i64 ro, .int .i64 ac, .int .i64 ne, .slice stA start.length stc, .int .i64 af, .int .i64 gr, .bool bu, .bool fi, .int .i64 pa, .int .i64 re, .int .i64 vn, .int .i64 vd, .int .i64 un, .int .i64 tg, .bool wa] 90 (0, 0)) := by rw [HW0.out]; exact (by have h := heap_alloc_new ((w.alloc (.cells #[.int .i64 C.parties, .slice hA C.holders.length hcp, .slice uA C.units.length ucp, .slice aA C.acts.length acp, .slice (some ⟨b, off, none⟩) C.clauses.length kcp, .int .i64 C.days, .slice oA C.off.length ocp] 27)).alloc (.cells #[.int .i64 ms, .int .i64 ml, .int .i64 mg, .int .i64 mb, .bool mp] 57)) (.cells #[.int .i64 ki, .int .i64 ro, .int .i64 ac, .int .i64 ne, .slice stA start.length stc, .int .i64 af, .int .i64 gr, .bool bu, .bool fi, .int .i64 pa, .int .i64 re, .int .i64 vn, .int .i64 vd, .int .i64 un, .int .i64 tg, .bool wa] 90); simp only [World.size_alloc] at h; exact h)
 have k2_0 : ∀ s : Bl W0, s.val.cell? ⟨w.heap.size + 1 + 1, 0, none⟩ = some (.int .i64 ki) := fun s => s.cell ((cell_of_row W0 _ 0 _ _ _ hh2).trans rfl)
 have k2_1 : ∀ s : Bl W0, s.val.cell? ⟨w.heap.size + 1 + 1, 1, none⟩ = some (.int .i64 ro) := fun s => s.cell ((cell_of_row W0 _ 1 _ _ _ hh2).trans rfl)
 have k2_2 : ∀ s : Bl W0, s.val.cell? ⟨w.heap.size + 1 + 1, 2, none⟩ = some (.int .i64 ac) := fun s => s.cell ((cell_of_row W0 _ 2 _ _ _ hh2).trans rfl)
 have k2_3 : ∀ s : Bl W0, s.val.cell? ⟨w.heap.size + 1 + 1, 3, none⟩ = some (.int .i64 ne) := fun s => s.cell ((cell_of_row W0 _ 3 _ _ _ hh2).trans rfl)
 have k2_4 : ∀ s : Bl W0, s.val.cell? ⟨w.heap.size + 1 + 1, 4, none⟩ = some (.slice stA start.length stc) := fun s => s.cell ((cell_of_row W0 _ 4 _ _ _ hh2).trans rfl)
 have k2_5 : ∀ s : Bl W0, s.val.cell? ⟨w.heap.size + 1 + 1, 5, none⟩ = some (.int .i64 af) := fun s => s.cell ((cell_of_row W0 _ 5 _ _ _ hh2).trans rfl)
 have k2_6 : ∀ s : Bl W0, s.val.cell? ⟨w.heap.size + 1 + 1, 6, none⟩ = some (.int .i64 gr) := fun s => s.cell ((cell_of_row W0 _ 6 _ _ _ hh2).trans rfl)
 have k2_7 : ∀ s : Bl W0, s.val.cell? ⟨w.heap.size + 1 + 1, 7, none⟩ = some (.bool bu) := fun s => s.cell ((cell_of_row W0 _ 7 _ _ _ hh2).trans rfl)
 have k2_8 : ∀ s : Bl W0, s.val.cell? ⟨w.heap.size + 1 + 1, 8, none⟩ = some (.bool fi) := fun s => s.cell ((cell_of_row W0 _ 8 _ _ _ hh2).trans rfl)
 have k2_9 : ∀ s : Bl W0, s.val.cell? ⟨w.heap.size + 1 + 1, 9, none⟩ = some (.int .i64 pa) := fun s => s.cell ((cell_of_row W0 _ 9 _ _ _ hh2).trans rfl)
 have k2_10 : ∀ s : Bl W0, s.val.cell? ⟨w.heap.size + 1 + 1, 10, none⟩ = some (.int .i64 re) := fun s => s.cell ((cell_of_row W0 _ 10 _ _ _ hh2).trans rfl)
 have k2_11 : ∀ s : Bl W0, s.val.cell? ⟨w.heap.size + 1 + 1, 11, none⟩ = some (.int .i64 vn) := fun s => s.cell ((cell_of_row W0 _ 11 _ _ _ hh2).trans rfl)
 have k2_12 : ∀ s : Bl W0, s.val.cell? ⟨w.heap.size + 1 + 1, 12, none⟩ = some (.int .i64 vd) := fun s => s.cell ((cell_of_row W0 _ 12 _ _ _ hh2).trans rfl)
 have k2_13 : ∀ s : Bl W0, s.val.cell? ⟨w.heap.size + 1 + 1, 13, none⟩ = some (.int .i64 un) := fun s => s.cell ((cell_of_row W0 _ 13 _ _ _ hh2).trans rfl)
 have k2_14 : ∀ s : Bl W0, s.val.cell? ⟨w.heap.size + 1 + 1, 14, none⟩ = some (.int .i64 tg) := fun s => s.cell ((cell_of_row W0 _ 14 _ _ _ hh2).trans rfl)
 have k2_15 : ∀ s : Bl W0, s.val.cell? ⟨w.heap.size + 1 + 1, 15, none⟩ = some (.bool wa) := fun s => s.cell ((cell_of_row W0 _ 15 _ _ _ hh2).trans rfl)
 clear hh2
 have HB : Hid (Below w.heap.size w W0) := by show Below _ _ _; rw [HW0.out]; exact Below.alloc' (Below.alloc' (Below.alloc' (Below.refl _ _) _) _) _
 rw [← HW0.out]
 change Code.wp _ _ _ _ (Bl.val (⟨W0, Below.refl _ _⟩ : Bl W0))
 generalize (⟨W0, Below.refl _ _⟩ : Bl W0) = s0
 clear c0 c1 c2 c3 c4 c5 c6 c7 c8 c9 c10 c11 c12 c13 c14 c15
 focus
  cases q1 : (ms == 0)
  focus
   have q1_0 : (ms != 0) = true := by simpa using q1
   cases q2 : (ms == 1)
   focus
    have q2_0 : (ms != 1) = true := by simpa using q2
    cases q3 : (ms == 2)
    focus
     have q3_0 : (ms != 2) = true := by simpa using q3
     cases q4 : (ms == 3)
     focus
      have q4_0 : (ms != 3) = true := by simpa using q4
      cases q5 : (ms == 4)
      focus
       have q5_0 : (ms != 4) = true := by simpa using q5
       cases q6 : (ms == 5)
       focus
        have q6_0 : (ms != 5) = true := by simpa using q6
        have hP : okMarkB C ki ne af gr pa wa ms ml mg mb mp = false := by unfold okMarkB; rw [q1, q2, q3, q4, q5, q6]; rfl
        obtain rfl : E = false := by rw [← HE.out, hP]
        clear hP
       rotate_left
       focus
        have q6_0 : (ms != 5) = false := by simpa using q6
        cases q7 : (ml == 0)
        focus
         have q7_0 : (ml != 0) = true := by simpa using q7
         have hP : okMarkB C ki ne af gr pa wa ms ml mg mb mp = false := by unfold okMarkB; rw [q1, q2, q3, q4, q5, q6, q7]; rfl
         obtain rfl : E = false := by rw [← HE.out, hP]
         clear hP
        rotate_left
        focus
         have q7_0 : (ml != 0) = false := by simpa using q7
         cases q8 : decide (0 ≤ mg)
         focus
          have hP : okMarkB C ki ne af gr pa wa ms ml mg mb mp = false := by unfold okMarkB; rw [q1, q2, q3, q4, q5, q6, q7, q8]; rfl
          obtain rfl : E = false := by rw [← HE.out, hP]
          clear hP
         rotate_left
         focus
          cases q9 : decide (mg ≤ 9)
          focus
           have hP : okMarkB C ki ne af gr pa wa ms ml mg mb mp = false := by unfold okMarkB; rw [q1, q2, q3, q4, q5, q6, q7, q8, q9]; rfl
           obtain rfl : E = false := by rw [← HE.out, hP]
           clear hP
          rotate_left
          focus
           cases q10 : decide (-1 ≤ mb)
           focus
            have hP : okMarkB C ki ne af gr pa wa ms ml mg mb mp = false := by unfold okMarkB; rw [q1, q2, q3, q4, q5, q6, q7, q8, q9, q10]; rfl
            obtain rfl : E = false := by rw [← HE.out, hP]
            clear hP
           rotate_left
           focus
            cases q11 : decide (mb < C.parties)
            focus
             have hP : okMarkB C ki ne af gr pa wa ms ml mg mb mp = false := by unfold okMarkB; rw [q1, q2, q3, q4, q5, q6, q7, q8, q9, q10, q11]; rfl
             obtain rfl : E = false := by rw [← HE.out, hP]
             clear hP
            rotate_left
            focus
             cases q12 : mp
             focus
              have hP : okMarkB C ki ne af gr pa wa ms ml mg mb mp = true := by unfold okMarkB; rw [q1, q2, q3, q4, q5, q6, q7, q8, q9, q10, q11, q12]; rfl
              obtain rfl : E = true := by rw [← HE.out, hP]
              clear hP
             rotate_left
             focus
              have hP : okMarkB C ki ne af gr pa wa ms ml mg mb mp = false := by unfold okMarkB; rw [q1, q2, q3, q4, q5, q6, q7, q8, q9, q10, q11, q12]; rfl
              obtain rfl : E = false := by rw [← HE.out, hP]
              clear hP
      rotate_left 8
      focus
       have q5_0 : (ms != 4) = false := by simpa using q5
       cases q6 : (ml == 0)
       focus
        have q6_0 : (ml != 0) = true := by simpa using q6
        have hP : okMarkB C ki ne af gr pa wa ms ml mg mb mp = false := by unfold okMarkB; rw [q1, q2, q3, q4, q5, q6]; rfl
        obtain rfl : E = false := by rw [← HE.out, hP]
        clear hP
       rotate_left
       focus
        have q6_0 : (ml != 0) = false := by simpa using q6
        cases q7 : decide (0 ≤ mg)
        focus
         have hP : okMarkB C ki ne af gr pa wa ms ml mg mb mp = false := by unfold okMarkB; rw [q1, q2, q3, q4, q5, q6, q7]; rfl
         obtain rfl : E = false := by rw [← HE.out, hP]
         clear hP
        rotate_left
        focus
         cases q8 : decide (mg ≤ 9)
         focus
          have hP : okMarkB C ki ne af gr pa wa ms ml mg mb mp = false := by unfold okMarkB; rw [q1, q2, q3, q4, q5, q6, q7, q8]; rfl
          obtain rfl : E = false := by rw [← HE.out, hP]
          clear hP
         rotate_left
         focus
          cases q9 : decide (-1 ≤ mb)
          focus
           have hP : okMarkB C ki ne af gr pa wa ms ml mg mb mp = false := by unfold okMarkB; rw [q1, q2, q3, q4, q5, q6, q7, q8, q9]; rfl
           obtain rfl : E = false := by rw [← HE.out, hP]
           clear hP
          rotate_left
          focus
           cases q10 : decide (mb < C.parties)
           focus
            have hP : okMarkB C ki ne af gr pa wa ms ml mg mb mp = false := by unfold okMarkB; rw [q1, q2, q3, q4, q5, q6, q7, q8, q9, q10]; rfl
            obtain rfl : E = false := by rw [← HE.out, hP]
            clear hP
           rotate_left
           focus
            cases q11 : mp
            focus
             have hP : okMarkB C ki ne af gr pa wa ms ml mg mb mp = true := by unfold okMarkB; rw [q1, q2, q3, q4, q5, q6, q7, q8, q9, q10, q11]; rfl
             obtain rfl : E = true := by rw [← HE.out, hP]
             clear hP
            rotate_left
            focus
             have hP : okMarkB C ki ne af gr pa wa ms ml mg mb mp = false := by unfold okMarkB; rw [q1, q2, q3, q4, q5, q6, q7, q8, q9, q10, q11]; rfl
             obtain rfl : E = false := by rw [← HE.out, hP]
             clear hP
     rotate_left 15
     focus
      have q4_0 : (ms != 3) = false := by simpa using q4
      cases q5 : (ml == 0)
      focus
       have q5_0 : (ml != 0) = true := by simpa using q5
       have hP : okMarkB C ki ne af gr pa wa ms ml mg mb mp = false := by unfold okMarkB; rw [q1, q2, q3, q4, q5]; rfl
       obtain rfl : E = false := by rw [← HE.out, hP]
       clear hP
      rotate_left
      focus
       have q5_0 : (ml != 0) = false := by simpa using q5
       cases q6 : decide (0 ≤ mg)
       focus
        have hP : okMarkB C ki ne af gr pa wa ms ml mg mb mp = false := by unfold okMarkB; rw [q1, q2, q3, q4, q5, q6]; rfl
        obtain rfl : E = false := by rw [← HE.out, hP]
        clear hP
       rotate_left
       focus
        cases q7 : decide (mg ≤ 9)
        focus
         have hP : okMarkB C ki ne af gr pa wa ms ml mg mb mp = false := by unfold okMarkB; rw [q1, q2, q3, q4, q5, q6, q7]; rfl
         obtain rfl : E = false := by rw [← HE.out, hP]
         clear hP
        rotate_left
        focus
         cases q8 : decide (-1 ≤ mb)
         focus
          have hP : okMarkB C ki ne af gr pa wa ms ml mg mb mp = false := by unfold okMarkB; rw [q1, q2, q3, q4, q5, q6, q7, q8]; rfl
          obtain rfl : E = false := by rw [← HE.out, hP]
          clear hP
         rotate_left
         focus
          cases q9 : decide (mb < C.parties)
          focus
           have hP : okMarkB C ki ne af gr pa wa ms ml mg mb mp = false := by unfold okMarkB; rw [q1, q2, q3, q4, q5, q6, q7, q8, q9]; rfl
           obtain rfl : E = false := by rw [← HE.out, hP]
           clear hP
          rotate_left
          focus
           cases q10 : mp
           focus
            have hP : okMarkB C ki ne af gr pa wa ms ml mg mb mp = true := by unfold okMarkB; rw [q1, q2, q3, q4, q5, q6, q7, q8, q9, q10]; rfl
            obtain rfl : E = true := by rw [← HE.out, hP]
            clear hP
           rotate_left
           focus
            have hP : okMarkB C ki ne af gr pa wa ms ml mg mb mp = false := by unfold okMarkB; rw [q1, q2, q3, q4, q5, q6, q7, q8, q9, q10]; rfl
            obtain rfl : E = false := by rw [← HE.out, hP]
            clear hP
    rotate_left 22
    focus
     have q3_0 : (ms != 2) = false := by simpa using q3
     cases q4 : (ki == 1)
     focus
      have q4_0 : (ki != 1) = true := by simpa using q4
      have hP : okMarkB C ki ne af gr pa wa ms ml mg mb mp = false := by unfold okMarkB; rw [q1, q2, q3, q4]; rfl
      obtain rfl : E = false := by rw [← HE.out, hP]
      clear hP
     rotate_left
     focus
      have q4_0 : (ki != 1) = false := by simpa using q4
      cases q5 : decide (ml ≤ gr)
      focus
       have hP : okMarkB C ki ne af gr pa wa ms ml mg mb mp = false := by unfold okMarkB; rw [q1, q2, q3, q4, q5]; rfl
       obtain rfl : E = false := by rw [← HE.out, hP]
       clear hP
      rotate_left
      focus
       cases q6 : (okRunB C ki ne pa wa ml mg mb mp)
       focus
        have hP : okMarkB C ki ne af gr pa wa ms ml mg mb mp = false := by unfold okMarkB; rw [q1, q2, q3, q4, q5, q6]; rfl
        obtain rfl : E = false := by rw [← HE.out, hP]
        clear hP
       rotate_left
       focus
        have hP : okMarkB C ki ne af gr pa wa ms ml mg mb mp = true := by unfold okMarkB; rw [q1, q2, q3, q4, q5, q6]; rfl
        obtain rfl : E = true := by rw [← HE.out, hP]
        clear hP
   rotate_left 26
   focus
    have q2_0 : (ms != 1) = false := by simpa using q2
    cases q3 : decide (ml ≤ af)
    focus
     have hP : okMarkB C ki ne af gr pa wa ms ml mg mb mp = false := by unfold okMarkB; rw [q1, q2, q3]; rfl
     obtain rfl : E = false := by rw [← HE.out, hP]
     clear hP
    rotate_left
    focus
     cases q4 : (okRunB C ki ne pa wa ml mg mb mp)
     focus
      have hP : okMarkB C ki ne af gr pa wa ms ml mg mb mp = false := by unfold okMarkB; rw [q1, q2, q3, q4]; rfl
      obtain rfl : E = false := by rw [← HE.out, hP]
      clear hP
     rotate_left
     focus
      have hP : okMarkB C ki ne af gr pa wa ms ml mg mb mp = true := by unfold okMarkB; rw [q1, q2, q3, q4]; rfl
      obtain rfl : E = true := by rw [← HE.out, hP]
      clear hP
  rotate_left 29
  focus
   have q1_0 : (ms != 0) = false := by simpa using q1
   cases q2 : wa
   focus
    cases q3 : (mark0B ms ml mg mb mp)
    focus
     have hP : okMarkB C ki ne af gr pa wa ms ml mg mb mp = false := by unfold okMarkB; rw [q1, q2, q3]; rfl
     obtain rfl : E = false := by rw [← HE.out, hP]
     clear hP
    rotate_left
    focus
     have hP : okMarkB C ki ne af gr pa wa ms ml mg mb mp = true := by unfold okMarkB; rw [q1, q2, q3]; rfl
     obtain rfl : E = true := by rw [← HE.out, hP]
     clear hP
   rotate_left 2
   focus
    have hP : okMarkB C ki ne af gr pa wa ms ml mg mb mp = false := by unfold okMarkB; rw [q1, q2]; rfl
    obtain rfl : E = false := by rw [← HE.out, hP]
    clear hP
  all_goals
   go_wp2_with (first | (go_at_call 62; refine (HRN.out _).mono ?_; rintro e z ⟨rfl, hz⟩; obtain ⟨z, rfl⟩ := Bl.on hz; clear hz))
   first
    | (go_ret; exact ⟨rfl, Below.step HB.out (Bl.prop _)⟩)
    | (refine wp_region_bl (by kernel_rfl) (by kernel_rfl) ?_; (repeat (go_big_quiet_step ((first | (go_at_call 62; exact Calls.bl_of (HRN.out _)))))); refine wpQuiet_nil ?_; rintro _ ⟨zq, rfl⟩; go_wp2_with (first | (go_at_call 62; refine (HRN.out _).mono ?_; rintro e z ⟨rfl, hz⟩; obtain ⟨z, rfl⟩ := Bl.on hz; clear hz)); go_ret; exact ⟨rfl, Below.step HB.out (Bl.prop _)⟩)
end Go.Proofs.YtaielhafpmjkaaaGreatDoor
