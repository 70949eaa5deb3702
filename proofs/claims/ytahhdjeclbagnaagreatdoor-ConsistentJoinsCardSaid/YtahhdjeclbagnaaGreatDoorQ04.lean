/-
  Con2; Con3
-/
import Derived.Test.YtahhdjeclbagnaaGreatDoorQ03
import Derived.Deep.DeepCutAuto
namespace Go.Proofs.YtahhdjeclbagnaaGreatDoor
open Go.RowKit
theorem run_eql_ratio (w : World) (n d : Int) : (binOp .eql 83 (.agg #[.int .i64 n, .int .i64 d]) (.agg #[.int .i64 0, .int .i64 1])).run Tryz.prog w = .ok (.bool (KRatio.zero ⟨n, d⟩)) w := by
 rw [run_eql_struct]
 go_simp
 unfold KRatio.zero
 by_cases h1 : n = 0 <;> by_cases h2 : d = 1 <;> simp [h1, h2]
def okActB (C : KCon) (ki ro gi tg un ln ld : Int) : Bool := (cond (!(C.role ro)) ((ki == 1) && ((ro == -1) && ((gi == 0) && (((tg == -1) || (C.role tg)) && ((un == -1) && (KRatio.zero ⟨ln, ld⟩)))))) (cond (ki == 1) (cond ((!(gi == 0)) || ((!(tg == -1)) && (!(C.role tg)))) false (cond (un == -1) (KRatio.zero ⟨ln, ld⟩) (decide (0 ≤ un) && (decide (un < (C.units.length : Int)) && (KRatio.plus ⟨ln, ld⟩))))) (cond ((ki == 2) || (ki == 3)) ((C.role gi) && (decide (0 ≤ tg) && (decide (tg < C.parties) && ((un == -1) && (KRatio.zero ⟨ln, ld⟩))))) false)))
set_option maxRecDepth 100000 in
set_option maxHeartbeats 4000000 in
theorem validAct_raw (v : CV) (C : KCon) (ki ro gi tg un ln ld : Int) (w : World) : Calls Tryz.prog 67 #[v.val C, .agg #[.int .i64 ki, .int .i64 ro, .int .i64 gi, .int .i64 tg, .int .i64 un, .int .i64 ln, .int .i64 ld]] w (RetB (.bool (okActB C ki ro gi tg un ln ld)) w) := by
 unfold CV.val CV.cells
 have hm : ∀ (r : Int) (W : World), Calls Tryz.prog 72 #[.agg #[.int .i64 C.parties, .slice v.h.A C.holders.length v.h.c, .slice v.u.A C.units.length v.u.c, .slice v.a.A C.acts.length v.a.c, .slice v.k.A C.clauses.length v.k.c, .int .i64 C.days, .slice v.o.A C.off.length v.o.c], .int .i64 r] W (RetB (.bool (C.role r)) W) := fun r W => movable_any v C r W
 have HM := Lib.hid hm; clear hm
 have HMT : Hid (∀ (r : Int) (W : World), C.role r = true → Calls Tryz.prog 72 #[.agg #[.int .i64 C.parties, .slice v.h.A C.holders.length v.h.c, .slice v.u.A C.units.length v.u.c, .slice v.a.A C.acts.length v.a.c, .slice v.k.A C.clauses.length v.k.c, .int .i64 C.days, .slice v.o.A C.off.length v.o.c], .int .i64 r] W (RetB (.bool true) W)) := fun r W h => by have := HM.out r W; rw [h] at this; exact this
 have HMF : Hid (∀ (r : Int) (W : World), C.role r = false → Calls Tryz.prog 72 #[.agg #[.int .i64 C.parties, .slice v.h.A C.holders.length v.h.c, .slice v.u.A C.units.length v.u.c, .slice v.a.A C.acts.length v.a.c, .slice v.k.A C.clauses.length v.k.c, .int .i64 C.days, .slice v.o.A C.off.length v.o.c], .int .i64 r] W (RetB (.bool false) W)) := fun r W h => by have := HM.out r W; rw [h] at this; exact this
 have hp : ∀ W, Calls Tryz.prog 71 #[.agg #[.int .i64 ln, .int .i64 ld]] W (RetB (.bool (KRatio.plus ⟨ln, ld⟩)) W) := fun W => positive_any ⟨ln, ld⟩ W
 have HP := Lib.hid hp; clear hp
 have heq := fun (w : World) => run_eql_ratio w ln ld
 generalize hE : okActB C ki ro gi tg un ln ld = E
 go_enter Tryz.func67, Tryz.ntmps67
 go_upto_region 1 with (fail)
 obtain ⟨W0, HW0⟩ : ∃ W0, Hid (W0 = (w.alloc (.cells #[.int .i64 C.parties, .slice v.h.A C.holders.length v.h.c, .slice v.u.A C.units.length v.u.c, .slice v.a.A C.acts.length v.a.c, .slice v.k.A C.clauses.length v.k.c, .int .i64 C.days, .slice v.o.A C.off.length v.o.c] 27)).alloc (.cells #[.int .i64 ki, .int .i64 ro, .int .i64 gi, .int .i64 tg, .int .i64 un, .int .i64 ln, .int .i64 ld] 85)) := ⟨_, rfl⟩
 have k0_0 : ∀ s : Bl W0, s.val.cell? ⟨w.heap.size, 0, none⟩ = some (.int .i64 C.parties) := fun s => s.cell (by rw [HW0.out]; go_simp)
 have k0_1 : ∀ s : Bl W0, s.val.cell? ⟨w.heap.size, 1, none⟩ = some (.slice v.h.A C.holders.length v.h.c) := fun s => s.cell (by rw [HW0.out]; go_simp)
 have k0_2 : ∀ s : Bl W0, s.val.cell? ⟨w.heap.size, 2, none⟩ = some (.slice v.u.A C.units.length v.u.c) := fun s => s.cell (by rw [HW0.out]; go_simp)
 have k0_3 : ∀ s : Bl W0, s.val.cell? ⟨w.heap.size, 3, none⟩ = some (.slice v.a.A C.acts.length v.a.c) := fun s => s.cell (by rw [HW0.out]; go_simp)
 have k0_4 : ∀ s : Bl W0, s.val.cell? ⟨w.heap.size, 4, none⟩ = some (.slice v.k.A C.clauses.length v.k.c) := fun s => s.cell (by rw [HW0.out]; go_simp)
 have k0_5 : ∀ s : Bl W0, s.val.cell? ⟨w.heap.size, 5, none⟩ = some (.int .i64 C.days) := fun s => s.cell (by rw [HW0.out]; go_simp)
 have k0_6 : ∀ s : Bl W0, s.val.cell? ⟨w.heap.size, 6, none⟩ = some (.slice v.o.A C.off.length v.o.c) := fun s => s.cell (by rw [HW0.out]; go_simp)
 have k1_0 : ∀ s : Bl W0, s.val.cell? ⟨w.heap.size + 1, 0, none⟩ = some (.int .i64 ki) := fun s => s.cell (by rw [HW0.out]; go_simp)
 have k1_1 : ∀ s : Bl W0, s.val.cell? ⟨w.heap.size + 1, 1, none⟩ = some (.int .i64 ro) := fun s => s.cell (by rw [HW0.out]; go_simp)
 have k1_2 : ∀ s : Bl W0, s.val.cell? ⟨w.heap.size + 1, 2, none⟩ = some (.int .i64 gi) := fun s => s.cell (by rw [HW0.out]; go_simp)
 have k1_3 : ∀ s : Bl W0, s.val.cell? ⟨w.heap.size + 1, 3, none⟩ = some (.int .i64 tg) := fun s => s.cell (by rw [HW0.out]; go_simp)
 have k1_4 : ∀ s : Bl W0, s.val.cell? ⟨w.heap.size + 1, 4, none⟩ = some (.int .i64 un) := fun s => s.cell (by rw [HW0.out]; go_simp)
 have k1_5 : ∀ s : Bl W0, s.val.cell? ⟨w.heap.size + 1, 5, none⟩ = some (.int .i64 ln) := fun s => s.cell (by rw [HW0.out]; go_simp)
 have k1_6 : ∀ s : Bl W0, s.val.cell? ⟨w.heap.size + 1, 6, none⟩ = some (.int .i64 ld) := fun s => s.cell (by rw [HW0.out]; go_simp)
 have HB : Hid (Below w.heap.size w W0) := by show Below _ _ _; rw [HW0.out]; exact Below.alloc' (Below.alloc' (Below.refl _ _) _) _
 rw [← HW0.out]
 change Code.wp _ _ _ _ (Bl.val (⟨W0, Below.refl _ _⟩ : Bl W0))
 generalize (⟨W0, Below.refl _ _⟩ : Bl W0) = s0
 focus
  cases q1 : (C.role ro)
  focus
   cases q2 : (ki == 1)
   focus
    have q2_0 : (ki != 1) = true := by simpa using q2
    obtain rfl : E = false := by rw [← hE]; unfold okActB; rw [q1, q2]; rfl
    clear hE
   rotate_left
   focus
    have q2_0 : (ki != 1) = false := by simpa using q2
    cases q3 : (ro == -1)
    focus
     have q3_0 : (ro != -1) = true := by simpa using q3
     obtain rfl : E = false := by rw [← hE]; unfold okActB; rw [q1, q2, q3]; rfl
     clear hE
    rotate_left
    focus
     have q3_0 : (ro != -1) = false := by simpa using q3
     cases q4 : (gi == 0)
     focus
      have q4_0 : (gi != 0) = true := by simpa using q4
      obtain rfl : E = false := by rw [← hE]; unfold okActB; rw [q1, q2, q3, q4]; rfl
      clear hE
     rotate_left
     focus
      have q4_0 : (gi != 0) = false := by simpa using q4
      cases q5 : (tg == -1)
      focus
       have q5_0 : (tg != -1) = true := by simpa using q5
       cases q6 : (C.role tg)
       focus
        obtain rfl : E = false := by rw [← hE]; unfold okActB; rw [q1, q2, q3, q4, q5, q6]; rfl
        clear hE
       rotate_left
       focus
        cases q7 : (un == -1)
        focus
         have q7_0 : (un != -1) = true := by simpa using q7
         obtain rfl : E = false := by rw [← hE]; unfold okActB; rw [q1, q2, q3, q4, q5, q6, q7]; rfl
         clear hE
        rotate_left
        focus
         have q7_0 : (un != -1) = false := by simpa using q7
         cases q8 : (KRatio.zero ⟨ln, ld⟩)
         focus
          obtain rfl : E = false := by rw [← hE]; unfold okActB; rw [q1, q2, q3, q4, q5, q6, q7, q8]; rfl
          clear hE
         rotate_left
         focus
          obtain rfl : E = true := by rw [← hE]; unfold okActB; rw [q1, q2, q3, q4, q5, q6, q7, q8]; rfl
          clear hE
      rotate_left 4
      focus
       have q5_0 : (tg != -1) = false := by simpa using q5
       cases q6 : (un == -1)
       focus
        have q6_0 : (un != -1) = true := by simpa using q6
        obtain rfl : E = false := by rw [← hE]; unfold okActB; rw [q1, q2, q3, q4, q5, q6]; rfl
        clear hE
       rotate_left
       focus
        have q6_0 : (un != -1) = false := by simpa using q6
        cases q7 : (KRatio.zero ⟨ln, ld⟩)
        focus
         obtain rfl : E = false := by rw [← hE]; unfold okActB; rw [q1, q2, q3, q4, q5, q6, q7]; rfl
         clear hE
        rotate_left
        focus
         obtain rfl : E = true := by rw [← hE]; unfold okActB; rw [q1, q2, q3, q4, q5, q6, q7]; rfl
         clear hE
  rotate_left 10
  focus
   cases q2 : (ki == 1)
   focus
    have q2_0 : (ki != 1) = true := by simpa using q2
    cases q3 : (ki == 2)
    focus
     have q3_0 : (ki != 2) = true := by simpa using q3
     cases q4 : (ki == 3)
     focus
      have q4_0 : (ki != 3) = true := by simpa using q4
      obtain rfl : E = false := by rw [← hE]; unfold okActB; rw [q1, q2, q3, q4]; rfl
      clear hE
     rotate_left
     focus
      have q4_0 : (ki != 3) = false := by simpa using q4
      cases q5 : (C.role gi)
      focus
       obtain rfl : E = false := by rw [← hE]; unfold okActB; rw [q1, q2, q3, q4, q5]; rfl
       clear hE
      rotate_left
      focus
       cases q6 : decide (0 ≤ tg)
       focus
        obtain rfl : E = false := by rw [← hE]; unfold okActB; rw [q1, q2, q3, q4, q5, q6]; rfl
        clear hE
       rotate_left
       focus
        cases q7 : decide (tg < C.parties)
        focus
         obtain rfl : E = false := by rw [← hE]; unfold okActB; rw [q1, q2, q3, q4, q5, q6, q7]; rfl
         clear hE
        rotate_left
        focus
         cases q8 : (un == -1)
         focus
          have q8_0 : (un != -1) = true := by simpa using q8
          obtain rfl : E = false := by rw [← hE]; unfold okActB; rw [q1, q2, q3, q4, q5, q6, q7, q8]; rfl
          clear hE
         rotate_left
         focus
          have q8_0 : (un != -1) = false := by simpa using q8
          cases q9 : (KRatio.zero ⟨ln, ld⟩)
          focus
           obtain rfl : E = false := by rw [← hE]; unfold okActB; rw [q1, q2, q3, q4, q5, q6, q7, q8, q9]; rfl
           clear hE
          rotate_left
          focus
           obtain rfl : E = true := by rw [← hE]; unfold okActB; rw [q1, q2, q3, q4, q5, q6, q7, q8, q9]; rfl
           clear hE
    rotate_left 7
    focus
     have q3_0 : (ki != 2) = false := by simpa using q3
     cases q4 : (C.role gi)
     focus
      obtain rfl : E = false := by rw [← hE]; unfold okActB; rw [q1, q2, q3, q4]; rfl
      clear hE
     rotate_left
     focus
      cases q5 : decide (0 ≤ tg)
      focus
       obtain rfl : E = false := by rw [← hE]; unfold okActB; rw [q1, q2, q3, q4, q5]; rfl
       clear hE
      rotate_left
      focus
       cases q6 : decide (tg < C.parties)
       focus
        obtain rfl : E = false := by rw [← hE]; unfold okActB; rw [q1, q2, q3, q4, q5, q6]; rfl
        clear hE
       rotate_left
       focus
        cases q7 : (un == -1)
        focus
         have q7_0 : (un != -1) = true := by simpa using q7
         obtain rfl : E = false := by rw [← hE]; unfold okActB; rw [q1, q2, q3, q4, q5, q6, q7]; rfl
         clear hE
        rotate_left
        focus
         have q7_0 : (un != -1) = false := by simpa using q7
         cases q8 : (KRatio.zero ⟨ln, ld⟩)
         focus
          obtain rfl : E = false := by rw [← hE]; unfold okActB; rw [q1, q2, q3, q4, q5, q6, q7, q8]; rfl
          clear hE
         rotate_left
         focus
          obtain rfl : E = true := by rw [← hE]; unfold okActB; rw [q1, q2, q3, q4, q5, q6, q7, q8]; rfl
          clear hE
   rotate_left 13
   focus
    have q2_0 : (ki != 1) = false := by simpa using q2
    cases q3 : (gi == 0)
    focus
     have q3_0 : (gi != 0) = true := by simpa using q3
     obtain rfl : E = false := by rw [← hE]; unfold okActB; rw [q1, q2, q3]; rfl
     clear hE
    rotate_left
    focus
     have q3_0 : (gi != 0) = false := by simpa using q3
     cases q4 : (tg == -1)
     focus
      have q4_0 : (tg != -1) = true := by simpa using q4
      cases q5 : (C.role tg)
      focus
       obtain rfl : E = false := by rw [← hE]; unfold okActB; rw [q1, q2, q3, q4, q5]; rfl
       clear hE
      rotate_left
      focus
       cases q6 : (un == -1)
       focus
        have q6_0 : (un != -1) = true := by simpa using q6
        cases q7 : decide (0 ≤ un)
        focus
         obtain rfl : E = false := by rw [← hE]; unfold okActB; rw [q1, q2, q3, q4, q5, q6, q7]; rfl
         clear hE
        rotate_left
        focus
         cases q8 : decide (un < (C.units.length : Int))
         focus
          obtain rfl : E = false := by rw [← hE]; unfold okActB; rw [q1, q2, q3, q4, q5, q6, q7, q8]; rfl
          clear hE
         rotate_left
         focus
          cases q9 : (KRatio.plus ⟨ln, ld⟩)
          focus
           obtain rfl : E = false := by rw [← hE]; unfold okActB; rw [q1, q2, q3, q4, q5, q6, q7, q8, q9]; rfl
           clear hE
          rotate_left
          focus
           obtain rfl : E = true := by rw [← hE]; unfold okActB; rw [q1, q2, q3, q4, q5, q6, q7, q8, q9]; rfl
           clear hE
       rotate_left 4
       focus
        have q6_0 : (un != -1) = false := by simpa using q6
        cases q7 : (KRatio.zero ⟨ln, ld⟩)
        focus
         obtain rfl : E = false := by rw [← hE]; unfold okActB; rw [q1, q2, q3, q4, q5, q6, q7]; rfl
         clear hE
        rotate_left
        focus
         obtain rfl : E = true := by rw [← hE]; unfold okActB; rw [q1, q2, q3, q4, q5, q6, q7]; rfl
         clear hE
     rotate_left 7
     focus
      have q4_0 : (tg != -1) = false := by simpa using q4
      cases q5 : (un == -1)
      focus
       have q5_0 : (un != -1) = true := by simpa using q5
       cases q6 : decide (0 ≤ un)
       focus
        obtain rfl : E = false := by rw [← hE]; unfold okActB; rw [q1, q2, q3, q4, q5, q6]; rfl
        clear hE
       rotate_left
       focus
        cases q7 : decide (un < (C.units.length : Int))
        focus
         obtain rfl : E = false := by rw [← hE]; unfold okActB; rw [q1, q2, q3, q4, q5, q6, q7]; rfl
         clear hE
        rotate_left
        focus
         cases q8 : (KRatio.plus ⟨ln, ld⟩)
         focus
          obtain rfl : E = false := by rw [← hE]; unfold okActB; rw [q1, q2, q3, q4, q5, q6, q7, q8]; rfl
          clear hE
         rotate_left
         focus
          obtain rfl : E = true := by rw [← hE]; unfold okActB; rw [q1, q2, q3, q4, q5, q6, q7, q8]; rfl
          clear hE
      rotate_left 4
      focus
       have q5_0 : (un != -1) = false := by simpa using q5
       cases q6 : (KRatio.zero ⟨ln, ld⟩)
       focus
        obtain rfl : E = false := by rw [← hE]; unfold okActB; rw [q1, q2, q3, q4, q5, q6]; rfl
        clear hE
       rotate_left
       focus
        obtain rfl : E = true := by rw [← hE]; unfold okActB; rw [q1, q2, q3, q4, q5, q6]; rfl
        clear hE
  all_goals
   go_wp2_with (first | (go_at_call 72; refine (HM.out _ _).mono ?_; rintro e z ⟨rfl, hz⟩; obtain ⟨z, rfl⟩ := Bl.on hz; clear hz) | (go_at_call 70; refine (none_any _).mono ?_; rintro e z ⟨rfl, hz⟩; obtain ⟨z, rfl⟩ := Bl.on hz; clear hz) | (go_at_call 71; refine (HP.out _).mono ?_; rintro e z ⟨rfl, hz⟩; obtain ⟨z, rfl⟩ := Bl.on hz; clear hz))
   first
    | (go_ret; exact ⟨rfl, Below.step HB.out (Bl.prop _)⟩)
    | (refine wp_region_bl (by kernel_rfl) (by kernel_rfl) ?_; (repeat (go_big_quiet_step ((first | (go_at_call 72; refine Calls.bl_of (HMT.out _ _ ?_); assumption) | (go_at_call 72; refine Calls.bl_of (HMF.out _ _ ?_); assumption) | (go_at_call 72; exact Calls.bl_of (HM.out _ _)) | (go_at_call 70; exact Calls.bl_of (none_any _)) | (go_at_call 71; exact Calls.bl_of (HP.out _)))))); refine wpQuiet_nil ?_; rintro _ ⟨zq, rfl⟩; go_wp2_with (first | (go_at_call 72; refine (HM.out _ _).mono ?_; rintro e z ⟨rfl, hz⟩; obtain ⟨z, rfl⟩ := Bl.on hz; clear hz) | (go_at_call 70; refine (none_any _).mono ?_; rintro e z ⟨rfl, hz⟩; obtain ⟨z, rfl⟩ := Bl.on hz; clear hz) | (go_at_call 71; refine (HP.out _).mono ?_; rintro e z ⟨rfl, hz⟩; obtain ⟨z, rfl⟩ := Bl.on hz; clear hz)); go_ret; exact ⟨rfl, Below.step HB.out (Bl.prop _)⟩)
end Go.Proofs.YtahhdjeclbagnaaGreatDoor
namespace Go.Proofs.YtahhdjeclbagnaaGreatDoor
open Go.RowKit
def okKindB (C : KCon) (ki ro ac ne gr : Int) (fi : Bool) : Bool := (cond (ki == 4) ((ro == -1) && ((ne == 1) && ((gr == 0) && (!fi)))) (cond ((!(C.role ro)) || (C.natural ac)) false (cond (ki == 1) (decide (1 ≤ ne) && (decide (ne ≤ 9) && (decide (0 ≤ gr) && decide (gr ≤ 400)))) (cond (ki == 2) ((ne == 1) && (gr == 0)) (cond (ki == 3) ((ne == 1) && ((gr == 0) && (!fi))) false)))))
set_option maxRecDepth 100000 in
set_option maxHeartbeats 4000000 in
theorem validKind_raw (v : CV) (C : KCon) (ki ro ac ne : Int) (st : SV) (sl : Nat) (af gr : Int) (bu fi : Bool) (pa re vn vd un tg : Int) (wa : Bool) (w : World) (hC : ConAt w v C) : Calls Tryz.prog 68 #[v.val C, .agg #[.int .i64 ki, .int .i64 ro, .int .i64 ac, .int .i64 ne, .slice st.A sl st.c, .int .i64 af, .int .i64 gr, .bool bu, .bool fi, .int .i64 pa, .int .i64 re, .int .i64 vn, .int .i64 vd, .int .i64 un, .int .i64 tg, .bool wa]] w (RetB (.bool (okKindB C ki ro ac ne gr fi)) w) := by
 unfold CV.val CV.cells
 have HC := Lib.hid hC; clear hC
 have hm : ∀ (r : Int) (W : World), Calls Tryz.prog 72 #[.agg #[.int .i64 C.parties, .slice v.h.A C.holders.length v.h.c, .slice v.u.A C.units.length v.u.c, .slice v.a.A C.acts.length v.a.c, .slice v.k.A C.clauses.length v.k.c, .int .i64 C.days, .slice v.o.A C.off.length v.o.c], .int .i64 r] W (RetB (.bool (C.role r)) W) := fun r W => movable_any v C r W
 have HM := Lib.hid hm; clear hm
 have HMT : Hid (∀ (r : Int) (W : World), C.role r = true → Calls Tryz.prog 72 #[.agg #[.int .i64 C.parties, .slice v.h.A C.holders.length v.h.c, .slice v.u.A C.units.length v.u.c, .slice v.a.A C.acts.length v.a.c, .slice v.k.A C.clauses.length v.k.c, .int .i64 C.days, .slice v.o.A C.off.length v.o.c], .int .i64 r] W (RetB (.bool true) W)) := fun r W h => by have := HM.out r W; rw [h] at this; exact this
 have HMF : Hid (∀ (r : Int) (W : World), C.role r = false → Calls Tryz.prog 72 #[.agg #[.int .i64 C.parties, .slice v.h.A C.holders.length v.h.c, .slice v.u.A C.units.length v.u.c, .slice v.a.A C.acts.length v.a.c, .slice v.k.A C.clauses.length v.k.c, .int .i64 C.days, .slice v.o.A C.off.length v.o.c], .int .i64 r] W (RetB (.bool false) W)) := fun r W h => by have := HM.out r W; rw [h] at this; exact this
 generalize hE : okKindB C ki ro ac ne gr fi = E
 go_enter Tryz.func68, Tryz.ntmps68
 go_upto_region 1 with (fail)
 obtain ⟨W0, HW0⟩ : ∃ W0, Hid (W0 = (w.alloc (.cells #[.int .i64 C.parties, .slice v.h.A C.holders.length v.h.c, .slice v.u.A C.units.length v.u.c, .slice v.a.A C.acts.length v.a.c, .slice v.k.A C.clauses.length v.k.c, .int .i64 C.days, .slice v.o.A C.off.length v.o.c] 27)).alloc (.cells #[.int .i64 ki, .int .i64 ro, .int .i64 ac, .int .i64 ne, .slice st.A sl st.c, .int .i64 af, .int .i64 gr, .bool bu, .bool fi, .int .i64 pa, .int .i64 re, .int .i64 vn, .int .i64 vd, .int .i64 un, .int .i64 tg, .bool wa] 88)) := ⟨_, rfl⟩
 have k0_0 : ∀ s : Bl W0, s.val.cell? ⟨w.heap.size, 0, none⟩ = some (.int .i64 C.parties) := fun s => s.cell (by rw [HW0.out]; go_simp)
 have k0_1 : ∀ s : Bl W0, s.val.cell? ⟨w.heap.size, 1, none⟩ = some (.slice v.h.A C.holders.length v.h.c) := fun s => s.cell (by rw [HW0.out]; go_simp)
 have k0_2 : ∀ s : Bl W0, s.val.cell? ⟨w.heap.size, 2, none⟩ = some (.slice v.u.A C.units.length v.u.c) := fun s => s.cell (by rw [HW0.out]; go_simp)
 have k0_3 : ∀ s : Bl W0, s.val.cell? ⟨w.heap.size, 3, none⟩ = some (.slice v.a.A C.acts.length v.a.c) := fun s => s.cell (by rw [HW0.out]; go_simp)
 have k0_4 : ∀ s : Bl W0, s.val.cell? ⟨w.heap.size, 4, none⟩ = some (.slice v.k.A C.clauses.length v.k.c) := fun s => s.cell (by rw [HW0.out]; go_simp)
 have k0_5 : ∀ s : Bl W0, s.val.cell? ⟨w.heap.size, 5, none⟩ = some (.int .i64 C.days) := fun s => s.cell (by rw [HW0.out]; go_simp)
 have k0_6 : ∀ s : Bl W0, s.val.cell? ⟨w.heap.size, 6, none⟩ = some (.slice v.o.A C.off.length v.o.c) := fun s => s.cell (by rw [HW0.out]; go_simp)
 have k1_0 : ∀ s : Bl W0, s.val.cell? ⟨w.heap.size + 1, 0, none⟩ = some (.int .i64 ki) := fun s => s.cell (by rw [HW0.out]; go_simp)
 have k1_1 : ∀ s : Bl W0, s.val.cell? ⟨w.heap.size + 1, 1, none⟩ = some (.int .i64 ro) := fun s => s.cell (by rw [HW0.out]; go_simp)
 have k1_2 : ∀ s : Bl W0, s.val.cell? ⟨w.heap.size + 1, 2, none⟩ = some (.int .i64 ac) := fun s => s.cell (by rw [HW0.out]; go_simp)
 have k1_3 : ∀ s : Bl W0, s.val.cell? ⟨w.heap.size + 1, 3, none⟩ = some (.int .i64 ne) := fun s => s.cell (by rw [HW0.out]; go_simp)
 have k1_4 : ∀ s : Bl W0, s.val.cell? ⟨w.heap.size + 1, 4, none⟩ = some (.slice st.A sl st.c) := fun s => s.cell (by rw [HW0.out]; go_simp)
 have k1_5 : ∀ s : Bl W0, s.val.cell? ⟨w.heap.size + 1, 5, none⟩ = some (.int .i64 af) := fun s => s.cell (by rw [HW0.out]; go_simp)
 have k1_6 : ∀ s : Bl W0, s.val.cell? ⟨w.heap.size + 1, 6, none⟩ = some (.int .i64 gr) := fun s => s.cell (by rw [HW0.out]; go_simp)
 have k1_7 : ∀ s : Bl W0, s.val.cell? ⟨w.heap.size + 1, 7, none⟩ = some (.bool bu) := fun s => s.cell (by rw [HW0.out]; go_simp)
 have k1_8 : ∀ s : Bl W0, s.val.cell? ⟨w.heap.size + 1, 8, none⟩ = some (.bool fi) := fun s => s.cell (by rw [HW0.out]; go_simp)
 have k1_9 : ∀ s : Bl W0, s.val.cell? ⟨w.heap.size + 1, 9, none⟩ = some (.int .i64 pa) := fun s => s.cell (by rw [HW0.out]; go_simp)
 have k1_10 : ∀ s : Bl W0, s.val.cell? ⟨w.heap.size + 1, 10, none⟩ = some (.int .i64 re) := fun s => s.cell (by rw [HW0.out]; go_simp)
 have k1_11 : ∀ s : Bl W0, s.val.cell? ⟨w.heap.size + 1, 11, none⟩ = some (.int .i64 vn) := fun s => s.cell (by rw [HW0.out]; go_simp)
 have k1_12 : ∀ s : Bl W0, s.val.cell? ⟨w.heap.size + 1, 12, none⟩ = some (.int .i64 vd) := fun s => s.cell (by rw [HW0.out]; go_simp)
 have k1_13 : ∀ s : Bl W0, s.val.cell? ⟨w.heap.size + 1, 13, none⟩ = some (.int .i64 un) := fun s => s.cell (by rw [HW0.out]; go_simp)
 have k1_14 : ∀ s : Bl W0, s.val.cell? ⟨w.heap.size + 1, 14, none⟩ = some (.int .i64 tg) := fun s => s.cell (by rw [HW0.out]; go_simp)
 have k1_15 : ∀ s : Bl W0, s.val.cell? ⟨w.heap.size + 1, 15, none⟩ = some (.bool wa) := fun s => s.cell (by rw [HW0.out]; go_simp)
 have HB : Hid (Below w.heap.size w W0) := by show Below _ _ _; rw [HW0.out]; exact Below.alloc' (Below.alloc' (Below.refl _ _) _) _
 rw [← HW0.out]
 change Code.wp _ _ _ _ (Bl.val (⟨W0, Below.refl _ _⟩ : Bl W0))
 generalize (⟨W0, Below.refl _ _⟩ : Bl W0) = s0
 have hn : ∀ (i : Int) (s : Bl W0), Calls Tryz.prog 69 #[.agg #[.int .i64 C.parties, .slice v.h.A C.holders.length v.h.c, .slice v.u.A C.units.length v.u.c, .slice v.a.A C.acts.length v.a.c, .slice v.k.A C.clauses.length v.k.c, .int .i64 C.days, .slice v.o.A C.off.length v.o.c], .int .i64 i] s.val (RetB (.bool (C.natural i)) s.val) := fun i s => natural_any v C i s.val (HC.out.below (Below.step HB.out s.prop))
 have HN := Lib.hid hn; clear hn
 have HNT : Hid (∀ (r : Int) (W : Bl W0), C.natural r = true → Calls Tryz.prog 69 #[.agg #[.int .i64 C.parties, .slice v.h.A C.holders.length v.h.c, .slice v.u.A C.units.length v.u.c, .slice v.a.A C.acts.length v.a.c, .slice v.k.A C.clauses.length v.k.c, .int .i64 C.days, .slice v.o.A C.off.length v.o.c], .int .i64 r] W.val (RetB (.bool true) W.val)) := fun r W h => by have := HN.out r W; rw [h] at this; exact this
 have HNF : Hid (∀ (r : Int) (W : Bl W0), C.natural r = false → Calls Tryz.prog 69 #[.agg #[.int .i64 C.parties, .slice v.h.A C.holders.length v.h.c, .slice v.u.A C.units.length v.u.c, .slice v.a.A C.acts.length v.a.c, .slice v.k.A C.clauses.length v.k.c, .int .i64 C.days, .slice v.o.A C.off.length v.o.c], .int .i64 r] W.val (RetB (.bool false) W.val)) := fun r W h => by have := HN.out r W; rw [h] at this; exact this
 focus
  cases q1 : (ki == 4)
  focus
   have q1_0 : (ki != 4) = true := by simpa using q1
   cases q2 : (C.role ro)
   focus
    obtain rfl : E = false := by rw [← hE]; unfold okKindB; rw [q1, q2]; rfl
    clear hE
   rotate_left
   focus
    cases q3 : (C.natural ac)
    focus
     cases q4 : (ki == 1)
     focus
      have q4_0 : (ki != 1) = true := by simpa using q4
      cases q5 : (ki == 2)
      focus
       have q5_0 : (ki != 2) = true := by simpa using q5
       cases q6 : (ki == 3)
       focus
        have q6_0 : (ki != 3) = true := by simpa using q6
        obtain rfl : E = false := by rw [← hE]; unfold okKindB; rw [q1, q2, q3, q4, q5, q6]; rfl
        clear hE
       rotate_left
       focus
        have q6_0 : (ki != 3) = false := by simpa using q6
        cases q7 : (ne == 1)
        focus
         have q7_0 : (ne != 1) = true := by simpa using q7
         obtain rfl : E = false := by rw [← hE]; unfold okKindB; rw [q1, q2, q3, q4, q5, q6, q7]; rfl
         clear hE
        rotate_left
        focus
         have q7_0 : (ne != 1) = false := by simpa using q7
         cases q8 : (gr == 0)
         focus
          have q8_0 : (gr != 0) = true := by simpa using q8
          obtain rfl : E = false := by rw [← hE]; unfold okKindB; rw [q1, q2, q3, q4, q5, q6, q7, q8]; rfl
          clear hE
         rotate_left
         focus
          have q8_0 : (gr != 0) = false := by simpa using q8
          cases q9 : fi
          focus
           obtain rfl : E = true := by rw [← hE]; unfold okKindB; rw [q1, q2, q3, q4, q5, q6, q7, q8, q9]; rfl
           clear hE
          rotate_left
          focus
           obtain rfl : E = false := by rw [← hE]; unfold okKindB; rw [q1, q2, q3, q4, q5, q6, q7, q8, q9]; rfl
           clear hE
      rotate_left 5
      focus
       have q5_0 : (ki != 2) = false := by simpa using q5
       cases q6 : (ne == 1)
       focus
        have q6_0 : (ne != 1) = true := by simpa using q6
        obtain rfl : E = false := by rw [← hE]; unfold okKindB; rw [q1, q2, q3, q4, q5, q6]; rfl
        clear hE
       rotate_left
       focus
        have q6_0 : (ne != 1) = false := by simpa using q6
        cases q7 : (gr == 0)
        focus
         have q7_0 : (gr != 0) = true := by simpa using q7
         obtain rfl : E = false := by rw [← hE]; unfold okKindB; rw [q1, q2, q3, q4, q5, q6, q7]; rfl
         clear hE
        rotate_left
        focus
         have q7_0 : (gr != 0) = false := by simpa using q7
         obtain rfl : E = true := by rw [← hE]; unfold okKindB; rw [q1, q2, q3, q4, q5, q6, q7]; rfl
         clear hE
     rotate_left 8
     focus
      have q4_0 : (ki != 1) = false := by simpa using q4
      cases q5 : decide (1 ≤ ne)
      focus
       obtain rfl : E = false := by rw [← hE]; unfold okKindB; rw [q1, q2, q3, q4, q5]; rfl
       clear hE
      rotate_left
      focus
       cases q6 : decide (ne ≤ 9)
       focus
        obtain rfl : E = false := by rw [← hE]; unfold okKindB; rw [q1, q2, q3, q4, q5, q6]; rfl
        clear hE
       rotate_left
       focus
        cases q7 : decide (0 ≤ gr)
        focus
         obtain rfl : E = false := by rw [← hE]; unfold okKindB; rw [q1, q2, q3, q4, q5, q6, q7]; rfl
         clear hE
        rotate_left
        focus
         cases q8 : decide (gr ≤ 400)
         focus
          obtain rfl : E = false := by rw [← hE]; unfold okKindB; rw [q1, q2, q3, q4, q5, q6, q7, q8]; rfl
          clear hE
         rotate_left
         focus
          obtain rfl : E = true := by rw [← hE]; unfold okKindB; rw [q1, q2, q3, q4, q5, q6, q7, q8]; rfl
          clear hE
    rotate_left 13
    focus
     obtain rfl : E = false := by rw [← hE]; unfold okKindB; rw [q1, q2, q3]; rfl
     clear hE
  rotate_left 15
  focus
   have q1_0 : (ki != 4) = false := by simpa using q1
   cases q2 : (ro == -1)
   focus
    have q2_0 : (ro != -1) = true := by simpa using q2
    obtain rfl : E = false := by rw [← hE]; unfold okKindB; rw [q1, q2]; rfl
    clear hE
   rotate_left
   focus
    have q2_0 : (ro != -1) = false := by simpa using q2
    cases q3 : (ne == 1)
    focus
     have q3_0 : (ne != 1) = true := by simpa using q3
     obtain rfl : E = false := by rw [← hE]; unfold okKindB; rw [q1, q2, q3]; rfl
     clear hE
    rotate_left
    focus
     have q3_0 : (ne != 1) = false := by simpa using q3
     cases q4 : (gr == 0)
     focus
      have q4_0 : (gr != 0) = true := by simpa using q4
      obtain rfl : E = false := by rw [← hE]; unfold okKindB; rw [q1, q2, q3, q4]; rfl
      clear hE
     rotate_left
     focus
      have q4_0 : (gr != 0) = false := by simpa using q4
      cases q5 : fi
      focus
       obtain rfl : E = true := by rw [← hE]; unfold okKindB; rw [q1, q2, q3, q4, q5]; rfl
       clear hE
      rotate_left
      focus
       obtain rfl : E = false := by rw [← hE]; unfold okKindB; rw [q1, q2, q3, q4, q5]; rfl
       clear hE
  all_goals
   go_wp2_with (first | (go_at_call 72; refine (HM.out _ _).mono ?_; rintro e z ⟨rfl, hz⟩; obtain ⟨z, rfl⟩ := Bl.on hz; clear hz) | (go_at_call 69; refine (HN.out _ _).mono ?_; rintro e z ⟨rfl, hz⟩; obtain ⟨z, rfl⟩ := Bl.on hz; clear hz))
   first
    | (go_ret; exact ⟨rfl, Below.step HB.out (Bl.prop _)⟩)
    | (refine wp_region_bl (by kernel_rfl) (by kernel_rfl) ?_; (repeat (go_big_quiet_step ((first | (go_at_call 72; refine Calls.bl_of (HMT.out _ _ ?_); assumption) | (go_at_call 72; refine Calls.bl_of (HMF.out _ _ ?_); assumption) | (go_at_call 72; exact Calls.bl_of (HM.out _ _)) | (go_at_call 69; refine Calls.bl_of (HNT.out _ _ ?_); assumption) | (go_at_call 69; refine Calls.bl_of (HNF.out _ _ ?_); assumption) | (go_at_call 69; exact Calls.bl_of (HN.out _ _)))))); refine wpQuiet_nil ?_; rintro _ ⟨zq, rfl⟩; go_wp2_with (first | (go_at_call 72; refine (HM.out _ _).mono ?_; rintro e z ⟨rfl, hz⟩; obtain ⟨z, rfl⟩ := Bl.on hz; clear hz) | (go_at_call 69; refine (HN.out _ _).mono ?_; rintro e z ⟨rfl, hz⟩; obtain ⟨z, rfl⟩ := Bl.on hz; clear hz)); go_ret; exact ⟨rfl, Below.step HB.out (Bl.prop _)⟩)
end Go.Proofs.YtahhdjeclbagnaaGreatDoor
