/-
  Con5; Con6
-/
import Derived.Test.YtahhdjeclbagnaaGreatDoorQ03
import Derived.Deep.DeepCutAuto
import Derived.Deep.LoopGhost
import Derived.WalkMore
namespace Go.Proofs.YtahhdjeclbagnaaGreatDoor
open Go.RowKit
def uIndex (us : List KUnit) (x : Int) : Bool := decide (0 ≤ x) && decide (x < us.length)
theorem uIndex_yes {us : List KUnit} {x : Int} (h : uIndex us x = true) : (0 : Int) ≤ x ∧ x < (us.length : Int) := by simpa [uIndex] using h
def uKind (us : List KUnit) (x : Int) : Int := ((us[x.toNat]?).map (·.kind)).getD 0
def uBase (us : List KUnit) (x : Int) : Int := ((us[x.toNat]?).map (·.base)).getD 0
def okU1 (i : Nat) (nm : ByteArray) : Bool := ((!decide (20 ≤ (i : Int))) && (!nm.toList.isEmpty))
def okU2 (ki fn fd : Int) : Bool := (((ki == 1) || (ki == 2)) && ((KRatio.ok ⟨fn, fd⟩) && (!decide (fn ≤ 0))))
def okU3 (us : List KUnit) (ki ba : Int) : Bool := ((uIndex us ba) && (((uKind us ba) == ki) && ((uBase us ba) == ba)))
def okU4 (i : Nat) (ba fn fd : Int) : Bool := ((!(ba == (i : Int))) || ((fn == 1) && (fd == 1)))
def newName (l : List KUnit) (nm : ByteArray) : Bool := l.all (fun u => !(u.name.toList == nm.toList))
def okUnit (us : List KUnit) (i : Nat) (u : KUnit) : Bool :=
 okU1 i u.name && (newName (us.take i) u.name && (okU2 u.kind u.factor.num u.factor.den && (okU3 us u.kind u.base && okU4 i u.base u.factor.num u.factor.den)))
theorem newName_snoc {l : List KUnit} {j : Nat} {x : KUnit} {nm : ByteArray} (hx : l[j]? = some x) (h : newName (l.take j) nm = true) (h2 : (x.name.toList == nm.toList) = false) : newName (l.take (j + 1)) nm = true := by
 obtain ⟨hj, rfl⟩ := List.getElem?_eq_some_iff.1 hx
 unfold newName at *
 rw [List.take_succ_eq_append_getElem hj, List.all_append, h]
 simpa using h2
theorem newName_bad {l : List KUnit} {i j : Nat} {x : KUnit} {nm : ByteArray} (hx : l[j]? = some x) (hj : j < i) (h2 : (x.name.toList == nm.toList) = true) : newName (l.take i) nm = false := by
 cases e : newName (l.take i) nm with
 | false => rfl
 | true =>
  unfold newName at e
  have hx2 : (l.take i)[j]? = some x := by rw [List.getElem?_take, if_pos hj]; exact hx
  have := List.all_eq_true.1 e x (List.mem_of_getElem? hx2)
  rw [h2] at this
  cases this
set_option maxHeartbeats 400000 in
theorem isIndex_any (A : Option Addr) (c : Nat) (us : List KUnit) (x : Int) (w : World) : Calls Tryz.prog 111 #[.slice A us.length c, .int .i64 x] w (RetB (.bool (uIndex us x)) w) := by
 generalize hE : uIndex us x = E
 cases h1 : decide (0 ≤ x) with
 | false =>
  obtain rfl : E = false := by rw [← hE]; unfold uIndex; rw [h1]; rfl
  go_enter Tryz.func111, Tryz.ntmps111
  go_wp2
  go_ret
  exact ⟨rfl, Below.refl _ _⟩
 | true =>
  obtain rfl : E = decide (x < (us.length : Int)) := by rw [← hE]; unfold uIndex; rw [h1]; rfl
  clear hE
  go_enter Tryz.func111, Tryz.ntmps111
  go_wp2
  go_ret
  exact ⟨rfl, Below.refl _ _⟩
theorem run_eql_ratio1 (w : World) (n d : Int) : (binOp .eql 83 (.agg #[.int .i64 n, .int .i64 d]) (.agg #[.int .i64 1, .int .i64 1])).run Tryz.prog w = .ok (.bool ((n == 1) && (d == 1))) w := by
 rw [run_eql_struct]
 go_simp
 by_cases h1 : n = 1 <;> by_cases h2 : d = 1 <;> simp [h1, h2]
set_option maxRecDepth 100000 in
set_option maxHeartbeats 4000000 in
theorem unitValid_any (A : Option Addr) (c : Nat) (us : List KUnit) (i : Nat) (u : KUnit) (w : World) (hA : At w 5 A us.length c (us.flatMap KUnit.cells)) (hk : us[i]? = some u) (hn : us.length ≤ 1000) :
 Calls Tryz.prog 93 #[.slice A us.length c, .int .i64 i] w (RetB (.bool (okUnit us i u)) w) := by
 have hil : i < us.length := (List.getElem?_eq_some_iff.1 hk).1
 obtain ⟨b, off, rfl, hb, hcell⟩ := hA.1.form (by omega) (by omega)
 have hcap : us.length ≤ c := hA.2.2.1
 have hcx : c ≤ maxLen := hA.2.2.2
 unfold maxLen at hcx
 clear hA
 have hg : ∀ (x : Nat) (a : KUnit) (j : Nat), us[x]? = some a → j < 5 → w.cell? ⟨b, off + x * 5 + j, none⟩ = a.cells[j]? := fun x a j ha hj => by
  have hx : x < us.length := (List.getElem?_eq_some_iff.1 ha).1
  rw [Nat.add_assoc, hcell _ (by omega)]
  exact get_flat _ 5 (fun _ => rfl) us x j a ha hj
 clear hcell
 obtain ⟨nm, ki, ba, ⟨fn, fd⟩⟩ := u
 generalize hE : okUnit us i ⟨nm, ki, ba, ⟨fn, fd⟩⟩ = E
 simp only [okUnit] at hE
 have HE := Lib.hid hE; clear hE
 have c0 : w.cell? ⟨b, off + i * 5, none⟩ = some (.string nm) := hg i _ 0 hk (by omega)
 have c1 : w.cell? ⟨b, off + i * 5 + 1, none⟩ = some (.int .i64 ki) := hg i _ 1 hk (by omega)
 have c2 : w.cell? ⟨b, off + i * 5 + 2, none⟩ = some (.int .i64 ba) := hg i _ 2 hk (by omega)
 have c3 : w.cell? ⟨b, off + i * 5 + 3, none⟩ = some (.int .i64 fn) := hg i _ 3 hk (by omega)
 have c4 : w.cell? ⟨b, off + i * 5 + 4, none⟩ = some (.int .i64 fd) := hg i _ 4 hk (by omega)
 have HG := Lib.hid hg; clear hg
 have HK := Lib.hid hk; clear hk
 have hr : ∀ W, Calls Tryz.prog 94 #[.agg #[.int .i64 fn, .int .i64 fd]] W (RetB (.bool (KRatio.ok ⟨fn, fd⟩)) W) := fun W => ratioValid_any ⟨fn, fd⟩ W
 have HR := Lib.hid hr; clear hr
 have hi : ∀ x W, Calls Tryz.prog 111 #[.slice (some ⟨b, off, none⟩) us.length c, .int .i64 x] W (RetB (.bool (uIndex us x)) W) := fun x W => isIndex_any _ c us x W
 have HI := Lib.hid hi; clear hi
 have HIT : Hid (∀ x W, uIndex us x = true → Calls Tryz.prog 111 #[.slice (some ⟨b, off, none⟩) us.length c, .int .i64 x] W (RetB (.bool true) W)) := fun x W h => by have := HI.out x W; rw [h] at this; exact this
 have HIF : Hid (∀ x W, uIndex us x = false → Calls Tryz.prog 111 #[.slice (some ⟨b, off, none⟩) us.length c, .int .i64 x] W (RetB (.bool false) W)) := fun x W h => by have := HI.out x W; rw [h] at this; exact this
 have heq := fun (w : World) => run_eql_ratio1 w fn fd
 have i0 : (0 : Int) ≤ (i : Int) := by omega
 have i1 : (i : Int) < (us.length : Int) := by omega
 have i2 : (i : Int) ≤ (c : Int) := by omega
 go_enter Tryz.func93, Tryz.ntmps93
 go_upto_region 2 with (fail)
 generalize hW0 : World.alloc _ _ = W0
 obtain ⟨HB, hh0⟩ := bx1 hW0
 have HW0 := Lib.hid hW0.symm
 clear hW0
 obtain ⟨k0_0, k0_1, k0_2, k0_3, k0_4⟩ := kc5 hh0
 clear hh0
 change Code.wp _ _ _ _ (Bl.val (⟨W0, Below.refl _ _⟩ : Bl W0))
 generalize (⟨W0, Below.refl _ _⟩ : Bl W0) = s0
 clear c0 c1 c2 c3 c4
 have HCELL : Hid (∀ (s : Bl W0) (x : Nat) (a : KUnit) (j : Nat), us[x]? = some a → j < 5 → s.val.cell? ⟨b, off + x * 5 + j, none⟩ = a.cells[j]?) := fun s x a j ha hj => by
  rw [(Below.step HB.out s.prop).cell (p := ⟨b, off + x * 5 + j, none⟩) hb]
  exact HG.out x a j ha hj
 focus
  cases q1 : decide (20 ≤ (i : Int))
  focus
   cases q2 : nm.toList.isEmpty
   focus
    have hP1 : okU1 i nm = true := by unfold okU1; rw [q1, q2]; rfl
    have HP1 := Lib.hid hP1; clear hP1
    go_wp2
    go_loopg [23] i (fun gk v23 wr => ∃ (j : Nat) (z : Bl W0), gk = i - j ∧ j ≤ i ∧ v23 = .int .i64 j ∧ wr = z.val ∧ Hid (newName (us.take j) nm = true))
    case atStart => exact ⟨0, _, rfl, Nat.zero_le _, rfl, rfl, rfl⟩
    case round =>
     obtain ⟨j, z, hgk, hj, rfl, rfl, hpre⟩ := hrel
     have HGK := Lib.hid hgk; clear hgk
     by_cases hlt : j < i
     · obtain ⟨⟨om, ok, ob, ⟨ofn, ofd⟩⟩, hx⟩ : ∃ x, us[j]? = some x := ⟨us[j]'(by omega), List.getElem?_eq_getElem _⟩
       have e0 : z.val.cell? ⟨b, off + j * 5, none⟩ = some (.string om) := HCELL.out z j _ 0 hx (by omega)
       have e1 : z.val.cell? ⟨b, off + j * 5 + 1, none⟩ = some (.int .i64 ok) := HCELL.out z j _ 1 hx (by omega)
       have e2 : z.val.cell? ⟨b, off + j * 5 + 2, none⟩ = some (.int .i64 ob) := HCELL.out z j _ 2 hx (by omega)
       have e3 : z.val.cell? ⟨b, off + j * 5 + 3, none⟩ = some (.int .i64 ofn) := HCELL.out z j _ 3 hx (by omega)
       have e4 : z.val.cell? ⟨b, off + j * 5 + 4, none⟩ = some (.int .i64 ofd) := HCELL.out z j _ 4 hx (by omega)
       have HX := Lib.hid hx; clear hx
       have j1 : (j : Int) < (i : Int) := by omega
       have hl0 : w.heap.size < z.val.heap.size := Nat.lt_of_lt_of_le (by rw [HW0.out]; simp) z.prop.size
       cases q : (om.toList == nm.toList) with
       | true =>
        have hcs := newName_bad HX.out hlt q
        obtain rfl : E = false := by rw [← HE.out, HP1.out, hcs]; rfl
        clear hcs
        go_wp2
        go_ret
        exact ⟨rfl, Below.step HB.out (Below.alloc' (Bl.prop _) _)⟩
       | false =>
        go_wp2
        go_roundg (i - (j + 1))
        case measure => rw [HGK.out]; omega
        case rel => exact ⟨j + 1, ⟨_, Below.alloc' z.prop _⟩, rfl, by omega, by go_num, rfl, newName_snoc HX.out hpre.out q⟩
     · obtain rfl : i = j := by omega
       have HNN : Hid (newName (us.take i) nm = true) := hpre
       cases q1 : (ki == 1) with
       | false =>
        have q1_0 : (ki != 1) = true := by simpa using q1
        cases q2 : (ki == 2) with
        | false =>
         have q2_0 : (ki != 2) = true := by simpa using q2
         have hP2 : okU2 ki fn fd = false := by unfold okU2; rw [q1, q2]; rfl
         obtain rfl : E = false := by rw [← HE.out, HP1.out, HNN.out, hP2]; rfl
         go_wp2_with (first | (go_at_call 94; refine (HR.out _).mono ?_; rintro e z ⟨rfl, hz⟩; obtain ⟨z, rfl⟩ := Bl.on hz; clear hz) | (go_at_call 111; refine (HI.out _ _).mono ?_; rintro e z ⟨rfl, hz⟩; obtain ⟨z, rfl⟩ := Bl.on hz; clear hz))
         first
          | (go_ret; exact ⟨rfl, Below.step HB.out (Bl.prop _)⟩)
          | (refine wp_region_bl (by kernel_rfl) (by kernel_rfl) ?_; (repeat (go_big_quiet_step ((first | (go_at_call 94; exact Calls.bl_of (HR.out _)) | (go_at_call 111; refine Calls.bl_of (HIT.out _ _ ?_); assumption) | (go_at_call 111; refine Calls.bl_of (HIF.out _ _ ?_); assumption) | (go_at_call 111; exact Calls.bl_of (HI.out _ _)))))); refine wpQuiet_nil ?_; rintro _ ⟨zq, rfl⟩; go_wp2_with (first | (go_at_call 94; refine (HR.out _).mono ?_; rintro e z ⟨rfl, hz⟩; obtain ⟨z, rfl⟩ := Bl.on hz; clear hz) | (go_at_call 111; refine (HI.out _ _).mono ?_; rintro e z ⟨rfl, hz⟩; obtain ⟨z, rfl⟩ := Bl.on hz; clear hz)); go_ret; exact ⟨rfl, Below.step HB.out (Bl.prop _)⟩)
        | true =>
         have q2_0 : (ki != 2) = false := by simpa using q2
         cases q3 : (KRatio.ok ⟨fn, fd⟩) with
         | false =>
          have hP2 : okU2 ki fn fd = false := by unfold okU2; rw [q1, q2, q3]; rfl
          obtain rfl : E = false := by rw [← HE.out, HP1.out, HNN.out, hP2]; rfl
          go_wp2_with (first | (go_at_call 94; refine (HR.out _).mono ?_; rintro e z ⟨rfl, hz⟩; obtain ⟨z, rfl⟩ := Bl.on hz; clear hz) | (go_at_call 111; refine (HI.out _ _).mono ?_; rintro e z ⟨rfl, hz⟩; obtain ⟨z, rfl⟩ := Bl.on hz; clear hz))
          first
           | (go_ret; exact ⟨rfl, Below.step HB.out (Bl.prop _)⟩)
           | (refine wp_region_bl (by kernel_rfl) (by kernel_rfl) ?_; (repeat (go_big_quiet_step ((first | (go_at_call 94; exact Calls.bl_of (HR.out _)) | (go_at_call 111; refine Calls.bl_of (HIT.out _ _ ?_); assumption) | (go_at_call 111; refine Calls.bl_of (HIF.out _ _ ?_); assumption) | (go_at_call 111; exact Calls.bl_of (HI.out _ _)))))); refine wpQuiet_nil ?_; rintro _ ⟨zq, rfl⟩; go_wp2_with (first | (go_at_call 94; refine (HR.out _).mono ?_; rintro e z ⟨rfl, hz⟩; obtain ⟨z, rfl⟩ := Bl.on hz; clear hz) | (go_at_call 111; refine (HI.out _ _).mono ?_; rintro e z ⟨rfl, hz⟩; obtain ⟨z, rfl⟩ := Bl.on hz; clear hz)); go_ret; exact ⟨rfl, Below.step HB.out (Bl.prop _)⟩)
         | true =>
          cases q4 : decide (fn ≤ 0) with
          | false =>
           have hP2 : okU2 ki fn fd = true := by unfold okU2; rw [q1, q2, q3, q4]; rfl
           have HP2 := Lib.hid hP2; clear hP2
           cases q1 : (uIndex us ba) with
           | false =>
            have hP3 : okU3 us ki ba = false := by unfold okU3; rw [q1]; rfl
            obtain rfl : E = false := by rw [← HE.out, HP1.out, HNN.out, HP2.out, hP3]; rfl
            go_wp2_with (first | (go_at_call 94; refine (HR.out _).mono ?_; rintro e z ⟨rfl, hz⟩; obtain ⟨z, rfl⟩ := Bl.on hz; clear hz) | (go_at_call 111; refine (HI.out _ _).mono ?_; rintro e z ⟨rfl, hz⟩; obtain ⟨z, rfl⟩ := Bl.on hz; clear hz))
            first
             | (go_ret; exact ⟨rfl, Below.step HB.out (Bl.prop _)⟩)
             | (refine wp_region_bl (by kernel_rfl) (by kernel_rfl) ?_; (repeat (go_big_quiet_step ((first | (go_at_call 94; exact Calls.bl_of (HR.out _)) | (go_at_call 111; refine Calls.bl_of (HIT.out _ _ ?_); assumption) | (go_at_call 111; refine Calls.bl_of (HIF.out _ _ ?_); assumption) | (go_at_call 111; exact Calls.bl_of (HI.out _ _)))))); refine wpQuiet_nil ?_; rintro _ ⟨zq, rfl⟩; go_wp2_with (first | (go_at_call 94; refine (HR.out _).mono ?_; rintro e z ⟨rfl, hz⟩; obtain ⟨z, rfl⟩ := Bl.on hz; clear hz) | (go_at_call 111; refine (HI.out _ _).mono ?_; rintro e z ⟨rfl, hz⟩; obtain ⟨z, rfl⟩ := Bl.on hz; clear hz)); go_ret; exact ⟨rfl, Below.step HB.out (Bl.prop _)⟩)
           | true =>
            obtain ⟨⟨hu0, hu1⟩, hb0, hb1⟩ : ((∀ s : Bl W0, s.val.cell? ⟨b, off + ba.toNat * 5 + 1, none⟩ = some (.int .i64 (uKind us ba))) ∧ (∀ s : Bl W0, s.val.cell? ⟨b, off + ba.toNat * 5 + 2, none⟩ = some (.int .i64 (uBase us ba)))) ∧ (0 : Int) ≤ ba ∧ ba < (us.length : Int) := by
             have h0 := uIndex_yes (by assumption : uIndex us ba = true)
             obtain ⟨a, ha⟩ : ∃ a, us[ba.toNat]? = some a := ⟨us[ba.toNat]'(by omega), List.getElem?_eq_getElem _⟩
             refine ⟨⟨fun s => ?_, fun s => ?_⟩, h0⟩
             · rw [HCELL.out s ba.toNat a 1 ha (by omega)]; simp [KUnit.cells, uKind, ha]
             · rw [HCELL.out s ba.toNat a 2 ha (by omega)]; simp [KUnit.cells, uBase, ha]
            cases q2 : ((uKind us ba) == ki) with
            | false =>
             have q2_0 : ((uKind us ba) != ki) = true := by simpa using q2
             have hP3 : okU3 us ki ba = false := by unfold okU3; rw [q1, q2]; rfl
             obtain rfl : E = false := by rw [← HE.out, HP1.out, HNN.out, HP2.out, hP3]; rfl
             go_wp2_with (first | (go_at_call 94; refine (HR.out _).mono ?_; rintro e z ⟨rfl, hz⟩; obtain ⟨z, rfl⟩ := Bl.on hz; clear hz) | (go_at_call 111; refine (HI.out _ _).mono ?_; rintro e z ⟨rfl, hz⟩; obtain ⟨z, rfl⟩ := Bl.on hz; clear hz))
             first
              | (go_ret; exact ⟨rfl, Below.step HB.out (Bl.prop _)⟩)
              | (refine wp_region_bl (by kernel_rfl) (by kernel_rfl) ?_; (repeat (go_big_quiet_step ((first | (go_at_call 94; exact Calls.bl_of (HR.out _)) | (go_at_call 111; refine Calls.bl_of (HIT.out _ _ ?_); assumption) | (go_at_call 111; refine Calls.bl_of (HIF.out _ _ ?_); assumption) | (go_at_call 111; exact Calls.bl_of (HI.out _ _)))))); refine wpQuiet_nil ?_; rintro _ ⟨zq, rfl⟩; go_wp2_with (first | (go_at_call 94; refine (HR.out _).mono ?_; rintro e z ⟨rfl, hz⟩; obtain ⟨z, rfl⟩ := Bl.on hz; clear hz) | (go_at_call 111; refine (HI.out _ _).mono ?_; rintro e z ⟨rfl, hz⟩; obtain ⟨z, rfl⟩ := Bl.on hz; clear hz)); go_ret; exact ⟨rfl, Below.step HB.out (Bl.prop _)⟩)
            | true =>
             have q2_0 : ((uKind us ba) != ki) = false := by simpa using q2
             cases q3 : ((uBase us ba) == ba) with
             | false =>
              have q3_0 : ((uBase us ba) != ba) = true := by simpa using q3
              have hP3 : okU3 us ki ba = false := by unfold okU3; rw [q1, q2, q3]; rfl
              obtain rfl : E = false := by rw [← HE.out, HP1.out, HNN.out, HP2.out, hP3]; rfl
              go_wp2_with (first | (go_at_call 94; refine (HR.out _).mono ?_; rintro e z ⟨rfl, hz⟩; obtain ⟨z, rfl⟩ := Bl.on hz; clear hz) | (go_at_call 111; refine (HI.out _ _).mono ?_; rintro e z ⟨rfl, hz⟩; obtain ⟨z, rfl⟩ := Bl.on hz; clear hz))
              first
               | (go_ret; exact ⟨rfl, Below.step HB.out (Bl.prop _)⟩)
               | (refine wp_region_bl (by kernel_rfl) (by kernel_rfl) ?_; (repeat (go_big_quiet_step ((first | (go_at_call 94; exact Calls.bl_of (HR.out _)) | (go_at_call 111; refine Calls.bl_of (HIT.out _ _ ?_); assumption) | (go_at_call 111; refine Calls.bl_of (HIF.out _ _ ?_); assumption) | (go_at_call 111; exact Calls.bl_of (HI.out _ _)))))); refine wpQuiet_nil ?_; rintro _ ⟨zq, rfl⟩; go_wp2_with (first | (go_at_call 94; refine (HR.out _).mono ?_; rintro e z ⟨rfl, hz⟩; obtain ⟨z, rfl⟩ := Bl.on hz; clear hz) | (go_at_call 111; refine (HI.out _ _).mono ?_; rintro e z ⟨rfl, hz⟩; obtain ⟨z, rfl⟩ := Bl.on hz; clear hz)); go_ret; exact ⟨rfl, Below.step HB.out (Bl.prop _)⟩)
             | true =>
              have q3_0 : ((uBase us ba) != ba) = false := by simpa using q3
              have hP3 : okU3 us ki ba = true := by unfold okU3; rw [q1, q2, q3]; rfl
              have HP3 := Lib.hid hP3; clear hP3
              cases q1 : (ba == (i : Int)) with
              | false =>
               have q1_0 : (ba != (i : Int)) = true := by simpa using q1
               have hP4 : okU4 i ba fn fd = true := by unfold okU4; rw [q1]; rfl
               obtain rfl : E = true := by rw [← HE.out, HP1.out, HNN.out, HP2.out, HP3.out, hP4]; rfl
               go_wp2_with (first | (go_at_call 94; refine (HR.out _).mono ?_; rintro e z ⟨rfl, hz⟩; obtain ⟨z, rfl⟩ := Bl.on hz; clear hz) | (go_at_call 111; refine (HI.out _ _).mono ?_; rintro e z ⟨rfl, hz⟩; obtain ⟨z, rfl⟩ := Bl.on hz; clear hz))
               first
                | (go_ret; exact ⟨rfl, Below.step HB.out (Bl.prop _)⟩)
                | (refine wp_region_bl (by kernel_rfl) (by kernel_rfl) ?_; (repeat (go_big_quiet_step ((first | (go_at_call 94; exact Calls.bl_of (HR.out _)) | (go_at_call 111; refine Calls.bl_of (HIT.out _ _ ?_); assumption) | (go_at_call 111; refine Calls.bl_of (HIF.out _ _ ?_); assumption) | (go_at_call 111; exact Calls.bl_of (HI.out _ _)))))); refine wpQuiet_nil ?_; rintro _ ⟨zq, rfl⟩; go_wp2_with (first | (go_at_call 94; refine (HR.out _).mono ?_; rintro e z ⟨rfl, hz⟩; obtain ⟨z, rfl⟩ := Bl.on hz; clear hz) | (go_at_call 111; refine (HI.out _ _).mono ?_; rintro e z ⟨rfl, hz⟩; obtain ⟨z, rfl⟩ := Bl.on hz; clear hz)); go_ret; exact ⟨rfl, Below.step HB.out (Bl.prop _)⟩)
              | true =>
               have q1_0 : (ba != (i : Int)) = false := by simpa using q1
               cases q2 : ((fn == 1) && (fd == 1)) with
               | false =>
                have hP4 : okU4 i ba fn fd = false := by unfold okU4; rw [q1, q2]; rfl
                obtain rfl : E = false := by rw [← HE.out, HP1.out, HNN.out, HP2.out, HP3.out, hP4]; rfl
                go_wp2_with (first | (go_at_call 94; refine (HR.out _).mono ?_; rintro e z ⟨rfl, hz⟩; obtain ⟨z, rfl⟩ := Bl.on hz; clear hz) | (go_at_call 111; refine (HI.out _ _).mono ?_; rintro e z ⟨rfl, hz⟩; obtain ⟨z, rfl⟩ := Bl.on hz; clear hz))
                first
                 | (go_ret; exact ⟨rfl, Below.step HB.out (Bl.prop _)⟩)
                 | (refine wp_region_bl (by kernel_rfl) (by kernel_rfl) ?_; (repeat (go_big_quiet_step ((first | (go_at_call 94; exact Calls.bl_of (HR.out _)) | (go_at_call 111; refine Calls.bl_of (HIT.out _ _ ?_); assumption) | (go_at_call 111; refine Calls.bl_of (HIF.out _ _ ?_); assumption) | (go_at_call 111; exact Calls.bl_of (HI.out _ _)))))); refine wpQuiet_nil ?_; rintro _ ⟨zq, rfl⟩; go_wp2_with (first | (go_at_call 94; refine (HR.out _).mono ?_; rintro e z ⟨rfl, hz⟩; obtain ⟨z, rfl⟩ := Bl.on hz; clear hz) | (go_at_call 111; refine (HI.out _ _).mono ?_; rintro e z ⟨rfl, hz⟩; obtain ⟨z, rfl⟩ := Bl.on hz; clear hz)); go_ret; exact ⟨rfl, Below.step HB.out (Bl.prop _)⟩)
               | true =>
                have hP4 : okU4 i ba fn fd = true := by unfold okU4; rw [q1, q2]; rfl
                obtain rfl : E = true := by rw [← HE.out, HP1.out, HNN.out, HP2.out, HP3.out, hP4]; rfl
                go_wp2_with (first | (go_at_call 94; refine (HR.out _).mono ?_; rintro e z ⟨rfl, hz⟩; obtain ⟨z, rfl⟩ := Bl.on hz; clear hz) | (go_at_call 111; refine (HI.out _ _).mono ?_; rintro e z ⟨rfl, hz⟩; obtain ⟨z, rfl⟩ := Bl.on hz; clear hz))
                first
                 | (go_ret; exact ⟨rfl, Below.step HB.out (Bl.prop _)⟩)
                 | (refine wp_region_bl (by kernel_rfl) (by kernel_rfl) ?_; (repeat (go_big_quiet_step ((first | (go_at_call 94; exact Calls.bl_of (HR.out _)) | (go_at_call 111; refine Calls.bl_of (HIT.out _ _ ?_); assumption) | (go_at_call 111; refine Calls.bl_of (HIF.out _ _ ?_); assumption) | (go_at_call 111; exact Calls.bl_of (HI.out _ _)))))); refine wpQuiet_nil ?_; rintro _ ⟨zq, rfl⟩; go_wp2_with (first | (go_at_call 94; refine (HR.out _).mono ?_; rintro e z ⟨rfl, hz⟩; obtain ⟨z, rfl⟩ := Bl.on hz; clear hz) | (go_at_call 111; refine (HI.out _ _).mono ?_; rintro e z ⟨rfl, hz⟩; obtain ⟨z, rfl⟩ := Bl.on hz; clear hz)); go_ret; exact ⟨rfl, Below.step HB.out (Bl.prop _)⟩)
          | true =>
           have hP2 : okU2 ki fn fd = false := by unfold okU2; rw [q1, q2, q3, q4]; rfl
           obtain rfl : E = false := by rw [← HE.out, HP1.out, HNN.out, hP2]; rfl
           go_wp2_with (first | (go_at_call 94; refine (HR.out _).mono ?_; rintro e z ⟨rfl, hz⟩; obtain ⟨z, rfl⟩ := Bl.on hz; clear hz) | (go_at_call 111; refine (HI.out _ _).mono ?_; rintro e z ⟨rfl, hz⟩; obtain ⟨z, rfl⟩ := Bl.on hz; clear hz))
           first
            | (go_ret; exact ⟨rfl, Below.step HB.out (Bl.prop _)⟩)
            | (refine wp_region_bl (by kernel_rfl) (by kernel_rfl) ?_; (repeat (go_big_quiet_step ((first | (go_at_call 94; exact Calls.bl_of (HR.out _)) | (go_at_call 111; refine Calls.bl_of (HIT.out _ _ ?_); assumption) | (go_at_call 111; refine Calls.bl_of (HIF.out _ _ ?_); assumption) | (go_at_call 111; exact Calls.bl_of (HI.out _ _)))))); refine wpQuiet_nil ?_; rintro _ ⟨zq, rfl⟩; go_wp2_with (first | (go_at_call 94; refine (HR.out _).mono ?_; rintro e z ⟨rfl, hz⟩; obtain ⟨z, rfl⟩ := Bl.on hz; clear hz) | (go_at_call 111; refine (HI.out _ _).mono ?_; rintro e z ⟨rfl, hz⟩; obtain ⟨z, rfl⟩ := Bl.on hz; clear hz)); go_ret; exact ⟨rfl, Below.step HB.out (Bl.prop _)⟩)
       | true =>
        have q1_0 : (ki != 1) = false := by simpa using q1
        cases q2 : (KRatio.ok ⟨fn, fd⟩) with
        | false =>
         have hP2 : okU2 ki fn fd = false := by unfold okU2; rw [q1, q2]; rfl
         obtain rfl : E = false := by rw [← HE.out, HP1.out, HNN.out, hP2]; rfl
         go_wp2_with (first | (go_at_call 94; refine (HR.out _).mono ?_; rintro e z ⟨rfl, hz⟩; obtain ⟨z, rfl⟩ := Bl.on hz; clear hz) | (go_at_call 111; refine (HI.out _ _).mono ?_; rintro e z ⟨rfl, hz⟩; obtain ⟨z, rfl⟩ := Bl.on hz; clear hz))
         first
          | (go_ret; exact ⟨rfl, Below.step HB.out (Bl.prop _)⟩)
          | (refine wp_region_bl (by kernel_rfl) (by kernel_rfl) ?_; (repeat (go_big_quiet_step ((first | (go_at_call 94; exact Calls.bl_of (HR.out _)) | (go_at_call 111; refine Calls.bl_of (HIT.out _ _ ?_); assumption) | (go_at_call 111; refine Calls.bl_of (HIF.out _ _ ?_); assumption) | (go_at_call 111; exact Calls.bl_of (HI.out _ _)))))); refine wpQuiet_nil ?_; rintro _ ⟨zq, rfl⟩; go_wp2_with (first | (go_at_call 94; refine (HR.out _).mono ?_; rintro e z ⟨rfl, hz⟩; obtain ⟨z, rfl⟩ := Bl.on hz; clear hz) | (go_at_call 111; refine (HI.out _ _).mono ?_; rintro e z ⟨rfl, hz⟩; obtain ⟨z, rfl⟩ := Bl.on hz; clear hz)); go_ret; exact ⟨rfl, Below.step HB.out (Bl.prop _)⟩)
        | true =>
         cases q3 : decide (fn ≤ 0) with
         | false =>
          have hP2 : okU2 ki fn fd = true := by unfold okU2; rw [q1, q2, q3]; rfl
          have HP2 := Lib.hid hP2; clear hP2
          cases q1 : (uIndex us ba) with
          | false =>
           have hP3 : okU3 us ki ba = false := by unfold okU3; rw [q1]; rfl
           obtain rfl : E = false := by rw [← HE.out, HP1.out, HNN.out, HP2.out, hP3]; rfl
           go_wp2_with (first | (go_at_call 94; refine (HR.out _).mono ?_; rintro e z ⟨rfl, hz⟩; obtain ⟨z, rfl⟩ := Bl.on hz; clear hz) | (go_at_call 111; refine (HI.out _ _).mono ?_; rintro e z ⟨rfl, hz⟩; obtain ⟨z, rfl⟩ := Bl.on hz; clear hz))
           first
            | (go_ret; exact ⟨rfl, Below.step HB.out (Bl.prop _)⟩)
            | (refine wp_region_bl (by kernel_rfl) (by kernel_rfl) ?_; (repeat (go_big_quiet_step ((first | (go_at_call 94; exact Calls.bl_of (HR.out _)) | (go_at_call 111; refine Calls.bl_of (HIT.out _ _ ?_); assumption) | (go_at_call 111; refine Calls.bl_of (HIF.out _ _ ?_); assumption) | (go_at_call 111; exact Calls.bl_of (HI.out _ _)))))); refine wpQuiet_nil ?_; rintro _ ⟨zq, rfl⟩; go_wp2_with (first | (go_at_call 94; refine (HR.out _).mono ?_; rintro e z ⟨rfl, hz⟩; obtain ⟨z, rfl⟩ := Bl.on hz; clear hz) | (go_at_call 111; refine (HI.out _ _).mono ?_; rintro e z ⟨rfl, hz⟩; obtain ⟨z, rfl⟩ := Bl.on hz; clear hz)); go_ret; exact ⟨rfl, Below.step HB.out (Bl.prop _)⟩)
          | true =>
           obtain ⟨⟨hu0, hu1⟩, hb0, hb1⟩ : ((∀ s : Bl W0, s.val.cell? ⟨b, off + ba.toNat * 5 + 1, none⟩ = some (.int .i64 (uKind us ba))) ∧ (∀ s : Bl W0, s.val.cell? ⟨b, off + ba.toNat * 5 + 2, none⟩ = some (.int .i64 (uBase us ba)))) ∧ (0 : Int) ≤ ba ∧ ba < (us.length : Int) := by
            have h0 := uIndex_yes (by assumption : uIndex us ba = true)
            obtain ⟨a, ha⟩ : ∃ a, us[ba.toNat]? = some a := ⟨us[ba.toNat]'(by omega), List.getElem?_eq_getElem _⟩
            refine ⟨⟨fun s => ?_, fun s => ?_⟩, h0⟩
            · rw [HCELL.out s ba.toNat a 1 ha (by omega)]; simp [KUnit.cells, uKind, ha]
            · rw [HCELL.out s ba.toNat a 2 ha (by omega)]; simp [KUnit.cells, uBase, ha]
           cases q2 : ((uKind us ba) == ki) with
           | false =>
            have q2_0 : ((uKind us ba) != ki) = true := by simpa using q2
            have hP3 : okU3 us ki ba = false := by unfold okU3; rw [q1, q2]; rfl
            obtain rfl : E = false := by rw [← HE.out, HP1.out, HNN.out, HP2.out, hP3]; rfl
            go_wp2_with (first | (go_at_call 94; refine (HR.out _).mono ?_; rintro e z ⟨rfl, hz⟩; obtain ⟨z, rfl⟩ := Bl.on hz; clear hz) | (go_at_call 111; refine (HI.out _ _).mono ?_; rintro e z ⟨rfl, hz⟩; obtain ⟨z, rfl⟩ := Bl.on hz; clear hz))
            first
             | (go_ret; exact ⟨rfl, Below.step HB.out (Bl.prop _)⟩)
             | (refine wp_region_bl (by kernel_rfl) (by kernel_rfl) ?_; (repeat (go_big_quiet_step ((first | (go_at_call 94; exact Calls.bl_of (HR.out _)) | (go_at_call 111; refine Calls.bl_of (HIT.out _ _ ?_); assumption) | (go_at_call 111; refine Calls.bl_of (HIF.out _ _ ?_); assumption) | (go_at_call 111; exact Calls.bl_of (HI.out _ _)))))); refine wpQuiet_nil ?_; rintro _ ⟨zq, rfl⟩; go_wp2_with (first | (go_at_call 94; refine (HR.out _).mono ?_; rintro e z ⟨rfl, hz⟩; obtain ⟨z, rfl⟩ := Bl.on hz; clear hz) | (go_at_call 111; refine (HI.out _ _).mono ?_; rintro e z ⟨rfl, hz⟩; obtain ⟨z, rfl⟩ := Bl.on hz; clear hz)); go_ret; exact ⟨rfl, Below.step HB.out (Bl.prop _)⟩)
           | true =>
            have q2_0 : ((uKind us ba) != ki) = false := by simpa using q2
            cases q3 : ((uBase us ba) == ba) with
            | false =>
             have q3_0 : ((uBase us ba) != ba) = true := by simpa using q3
             have hP3 : okU3 us ki ba = false := by unfold okU3; rw [q1, q2, q3]; rfl
             obtain rfl : E = false := by rw [← HE.out, HP1.out, HNN.out, HP2.out, hP3]; rfl
             go_wp2_with (first | (go_at_call 94; refine (HR.out _).mono ?_; rintro e z ⟨rfl, hz⟩; obtain ⟨z, rfl⟩ := Bl.on hz; clear hz) | (go_at_call 111; refine (HI.out _ _).mono ?_; rintro e z ⟨rfl, hz⟩; obtain ⟨z, rfl⟩ := Bl.on hz; clear hz))
             first
              | (go_ret; exact ⟨rfl, Below.step HB.out (Bl.prop _)⟩)
              | (refine wp_region_bl (by kernel_rfl) (by kernel_rfl) ?_; (repeat (go_big_quiet_step ((first | (go_at_call 94; exact Calls.bl_of (HR.out _)) | (go_at_call 111; refine Calls.bl_of (HIT.out _ _ ?_); assumption) | (go_at_call 111; refine Calls.bl_of (HIF.out _ _ ?_); assumption) | (go_at_call 111; exact Calls.bl_of (HI.out _ _)))))); refine wpQuiet_nil ?_; rintro _ ⟨zq, rfl⟩; go_wp2_with (first | (go_at_call 94; refine (HR.out _).mono ?_; rintro e z ⟨rfl, hz⟩; obtain ⟨z, rfl⟩ := Bl.on hz; clear hz) | (go_at_call 111; refine (HI.out _ _).mono ?_; rintro e z ⟨rfl, hz⟩; obtain ⟨z, rfl⟩ := Bl.on hz; clear hz)); go_ret; exact ⟨rfl, Below.step HB.out (Bl.prop _)⟩)
            | true =>
             have q3_0 : ((uBase us ba) != ba) = false := by simpa using q3
             have hP3 : okU3 us ki ba = true := by unfold okU3; rw [q1, q2, q3]; rfl
             have HP3 := Lib.hid hP3; clear hP3
             cases q1 : (ba == (i : Int)) with
             | false =>
              have q1_0 : (ba != (i : Int)) = true := by simpa using q1
              have hP4 : okU4 i ba fn fd = true := by unfold okU4; rw [q1]; rfl
              obtain rfl : E = true := by rw [← HE.out, HP1.out, HNN.out, HP2.out, HP3.out, hP4]; rfl
              go_wp2_with (first | (go_at_call 94; refine (HR.out _).mono ?_; rintro e z ⟨rfl, hz⟩; obtain ⟨z, rfl⟩ := Bl.on hz; clear hz) | (go_at_call 111; refine (HI.out _ _).mono ?_; rintro e z ⟨rfl, hz⟩; obtain ⟨z, rfl⟩ := Bl.on hz; clear hz))
              first
               | (go_ret; exact ⟨rfl, Below.step HB.out (Bl.prop _)⟩)
               | (refine wp_region_bl (by kernel_rfl) (by kernel_rfl) ?_; (repeat (go_big_quiet_step ((first | (go_at_call 94; exact Calls.bl_of (HR.out _)) | (go_at_call 111; refine Calls.bl_of (HIT.out _ _ ?_); assumption) | (go_at_call 111; refine Calls.bl_of (HIF.out _ _ ?_); assumption) | (go_at_call 111; exact Calls.bl_of (HI.out _ _)))))); refine wpQuiet_nil ?_; rintro _ ⟨zq, rfl⟩; go_wp2_with (first | (go_at_call 94; refine (HR.out _).mono ?_; rintro e z ⟨rfl, hz⟩; obtain ⟨z, rfl⟩ := Bl.on hz; clear hz) | (go_at_call 111; refine (HI.out _ _).mono ?_; rintro e z ⟨rfl, hz⟩; obtain ⟨z, rfl⟩ := Bl.on hz; clear hz)); go_ret; exact ⟨rfl, Below.step HB.out (Bl.prop _)⟩)
             | true =>
              have q1_0 : (ba != (i : Int)) = false := by simpa using q1
              cases q2 : ((fn == 1) && (fd == 1)) with
              | false =>
               have hP4 : okU4 i ba fn fd = false := by unfold okU4; rw [q1, q2]; rfl
               obtain rfl : E = false := by rw [← HE.out, HP1.out, HNN.out, HP2.out, HP3.out, hP4]; rfl
               go_wp2_with (first | (go_at_call 94; refine (HR.out _).mono ?_; rintro e z ⟨rfl, hz⟩; obtain ⟨z, rfl⟩ := Bl.on hz; clear hz) | (go_at_call 111; refine (HI.out _ _).mono ?_; rintro e z ⟨rfl, hz⟩; obtain ⟨z, rfl⟩ := Bl.on hz; clear hz))
               first
                | (go_ret; exact ⟨rfl, Below.step HB.out (Bl.prop _)⟩)
                | (refine wp_region_bl (by kernel_rfl) (by kernel_rfl) ?_; (repeat (go_big_quiet_step ((first | (go_at_call 94; exact Calls.bl_of (HR.out _)) | (go_at_call 111; refine Calls.bl_of (HIT.out _ _ ?_); assumption) | (go_at_call 111; refine Calls.bl_of (HIF.out _ _ ?_); assumption) | (go_at_call 111; exact Calls.bl_of (HI.out _ _)))))); refine wpQuiet_nil ?_; rintro _ ⟨zq, rfl⟩; go_wp2_with (first | (go_at_call 94; refine (HR.out _).mono ?_; rintro e z ⟨rfl, hz⟩; obtain ⟨z, rfl⟩ := Bl.on hz; clear hz) | (go_at_call 111; refine (HI.out _ _).mono ?_; rintro e z ⟨rfl, hz⟩; obtain ⟨z, rfl⟩ := Bl.on hz; clear hz)); go_ret; exact ⟨rfl, Below.step HB.out (Bl.prop _)⟩)
              | true =>
               have hP4 : okU4 i ba fn fd = true := by unfold okU4; rw [q1, q2]; rfl
               obtain rfl : E = true := by rw [← HE.out, HP1.out, HNN.out, HP2.out, HP3.out, hP4]; rfl
               go_wp2_with (first | (go_at_call 94; refine (HR.out _).mono ?_; rintro e z ⟨rfl, hz⟩; obtain ⟨z, rfl⟩ := Bl.on hz; clear hz) | (go_at_call 111; refine (HI.out _ _).mono ?_; rintro e z ⟨rfl, hz⟩; obtain ⟨z, rfl⟩ := Bl.on hz; clear hz))
               first
                | (go_ret; exact ⟨rfl, Below.step HB.out (Bl.prop _)⟩)
                | (refine wp_region_bl (by kernel_rfl) (by kernel_rfl) ?_; (repeat (go_big_quiet_step ((first | (go_at_call 94; exact Calls.bl_of (HR.out _)) | (go_at_call 111; refine Calls.bl_of (HIT.out _ _ ?_); assumption) | (go_at_call 111; refine Calls.bl_of (HIF.out _ _ ?_); assumption) | (go_at_call 111; exact Calls.bl_of (HI.out _ _)))))); refine wpQuiet_nil ?_; rintro _ ⟨zq, rfl⟩; go_wp2_with (first | (go_at_call 94; refine (HR.out _).mono ?_; rintro e z ⟨rfl, hz⟩; obtain ⟨z, rfl⟩ := Bl.on hz; clear hz) | (go_at_call 111; refine (HI.out _ _).mono ?_; rintro e z ⟨rfl, hz⟩; obtain ⟨z, rfl⟩ := Bl.on hz; clear hz)); go_ret; exact ⟨rfl, Below.step HB.out (Bl.prop _)⟩)
         | true =>
          have hP2 : okU2 ki fn fd = false := by unfold okU2; rw [q1, q2, q3]; rfl
          obtain rfl : E = false := by rw [← HE.out, HP1.out, HNN.out, hP2]; rfl
          go_wp2_with (first | (go_at_call 94; refine (HR.out _).mono ?_; rintro e z ⟨rfl, hz⟩; obtain ⟨z, rfl⟩ := Bl.on hz; clear hz) | (go_at_call 111; refine (HI.out _ _).mono ?_; rintro e z ⟨rfl, hz⟩; obtain ⟨z, rfl⟩ := Bl.on hz; clear hz))
          first
           | (go_ret; exact ⟨rfl, Below.step HB.out (Bl.prop _)⟩)
           | (refine wp_region_bl (by kernel_rfl) (by kernel_rfl) ?_; (repeat (go_big_quiet_step ((first | (go_at_call 94; exact Calls.bl_of (HR.out _)) | (go_at_call 111; refine Calls.bl_of (HIT.out _ _ ?_); assumption) | (go_at_call 111; refine Calls.bl_of (HIF.out _ _ ?_); assumption) | (go_at_call 111; exact Calls.bl_of (HI.out _ _)))))); refine wpQuiet_nil ?_; rintro _ ⟨zq, rfl⟩; go_wp2_with (first | (go_at_call 94; refine (HR.out _).mono ?_; rintro e z ⟨rfl, hz⟩; obtain ⟨z, rfl⟩ := Bl.on hz; clear hz) | (go_at_call 111; refine (HI.out _ _).mono ?_; rintro e z ⟨rfl, hz⟩; obtain ⟨z, rfl⟩ := Bl.on hz; clear hz)); go_ret; exact ⟨rfl, Below.step HB.out (Bl.prop _)⟩)
   focus
    have hP1 : okU1 i nm = false := by unfold okU1; rw [q1, q2]; rfl
    obtain rfl : E = false := by rw [← HE.out, hP1]; rfl
  rotate_left
  focus
   have hP1 : okU1 i nm = false := by unfold okU1; rw [q1]; rfl
   obtain rfl : E = false := by rw [← HE.out, hP1]; rfl
  all_goals
   go_wp2_with (first | (go_at_call 94; refine (HR.out _).mono ?_; rintro e z ⟨rfl, hz⟩; obtain ⟨z, rfl⟩ := Bl.on hz; clear hz) | (go_at_call 111; refine (HI.out _ _).mono ?_; rintro e z ⟨rfl, hz⟩; obtain ⟨z, rfl⟩ := Bl.on hz; clear hz))
   first
    | (go_ret; exact ⟨rfl, Below.step HB.out (Bl.prop _)⟩)
    | (refine wp_region_bl (by kernel_rfl) (by kernel_rfl) ?_; (repeat (go_big_quiet_step ((first | (go_at_call 94; exact Calls.bl_of (HR.out _)) | (go_at_call 111; refine Calls.bl_of (HIT.out _ _ ?_); assumption) | (go_at_call 111; refine Calls.bl_of (HIF.out _ _ ?_); assumption) | (go_at_call 111; exact Calls.bl_of (HI.out _ _)))))); refine wpQuiet_nil ?_; rintro _ ⟨zq, rfl⟩; go_wp2_with (first | (go_at_call 94; refine (HR.out _).mono ?_; rintro e z ⟨rfl, hz⟩; obtain ⟨z, rfl⟩ := Bl.on hz; clear hz) | (go_at_call 111; refine (HI.out _ _).mono ?_; rintro e z ⟨rfl, hz⟩; obtain ⟨z, rfl⟩ := Bl.on hz; clear hz)); go_ret; exact ⟨rfl, Below.step HB.out (Bl.prop _)⟩)
end Go.Proofs.YtahhdjeclbagnaaGreatDoor
namespace Go.Proofs.YtahhdjeclbagnaaGreatDoor
open Go.RowKit
def badUnit (us : List KUnit) : Nat → List KUnit → Option Nat
 | _, [] => none
 | i, u :: l => if okUnit us i u then badUnit us (i + 1) l else some i
def okUnits (us : List KUnit) : Bool := (List.range us.length).all (fun i => match us[i]? with | some u => okUnit us i u | none => true)
theorem okUnits_bad {us : List KUnit} {i : Nat} {u : KUnit} (hu : us[i]? = some u) (h : okUnit us i u = false) : okUnits us = false := by
 cases e : okUnits us with
 | false => rfl
 | true =>
  unfold okUnits at e
  have hi : i < us.length := (List.getElem?_eq_some_iff.1 hu).1
  have := List.all_eq_true.1 e i (by simpa using hi)
  simp only [hu] at this
  rw [this] at h
  cases h
theorem okUnits_all {us : List KUnit} (h : ∀ i u, us[i]? = some u → okUnit us i u = true) : okUnits us = true := by
 unfold okUnits
 rw [List.all_eq_true]
 intro i _
 cases e : us[i]? with
 | none => rfl
 | some u => exact h i u e
def UnitsPost (us : List KUnit) (w : World) (e : Ending) (w' : World) : Prop := ∃ n : Int, e = .returned (.tuple #[.int .i64 n, .bool (okUnits us)]) ∧ Below w.heap.size w w'
set_option maxRecDepth 100000 in
set_option maxHeartbeats 1000000 in
theorem unitsValid_any (A : Option Addr) (c : Nat) (us : List KUnit) (w : World) (hA : At w 5 A us.length c (us.flatMap KUnit.cells)) (hn : us.length ≤ 1000) :
 Calls Tryz.prog 66 #[.slice A us.length c] w (UnitsPost us w) := by
 have HA := Lib.hid hA; clear hA
 generalize hE : okUnits us = E
 have HE := Lib.hid hE; clear hE
 have hP : ∀ n : Int, ∀ b : Bool, b = E → ∀ w', Below w.heap.size w w' → UnitsPost us w (.returned (.tuple #[.int .i64 n, .bool b])) w' := fun n b hb w' hw => ⟨n, by rw [hb, HE.out], hw⟩
 have HP := Lib.hid hP; clear hP
 go_enter Tryz.func66, Tryz.ntmps66
 go_wp2
 go_loopg [7] us.length (fun gk v7 wr => ∃ (j : Nat), gk = us.length - j ∧ j ≤ us.length ∧ v7 = .int .i64 j ∧ Below w.heap.size w wr ∧ Hid (∀ i u, i < j → us[i]? = some u → okUnit us i u = true))
 case atStart => exact ⟨0, rfl, Nat.zero_le _, rfl, Below.refl _ _, fun i u h => by omega⟩
 case round =>
  obtain ⟨j, hgk, hj, rfl, hb, hpre⟩ := hrel
  have HGK := Lib.hid hgk; clear hgk
  by_cases hlt : j < us.length
  · obtain ⟨u, hu⟩ : ∃ u, us[j]? = some u := ⟨us[j], List.getElem?_eq_getElem hlt⟩
    have hc := unitValid_any A c us j u wr (HA.out.below (by omega) hb) hu hn
    generalize hv : okUnit us j u = vv at hc
    have HV := Lib.hid hv; clear hv
    have HU := Lib.hid hu; clear hu
    have HCC := Lib.hid hc; clear hc
    have HBB := Lib.hid hb; clear hb
    have j1 : (j : Int) < (us.length : Int) := by omega
    cases vv with
    | false =>
     have HF : Hid (false = E) := by show _ = _; rw [← HE.out, okUnits_bad HU.out HV.out]
     go_wp2_with (go_at_call 93; refine HCC.out.mono ?_; rintro e z ⟨rfl, hz⟩)
     go_ret2
     exact HP.out _ _ HF.out _ (Below.step HBB.out hz)
    | true =>
     go_wp2_with (go_at_call 93; refine HCC.out.mono ?_; rintro e z ⟨rfl, hz⟩)
     go_roundg (us.length - (j + 1))
     case measure => rw [HGK.out]; omega
     case rel => exact ⟨j + 1, rfl, by omega, by go_num, Below.step HBB.out hz, fun i u hi hu => by
      by_cases e : i = j
      · subst e
        rw [HU.out] at hu
        injection hu with hu
        subst hu
        exact HV.out
      · exact hpre.out i u (by omega) hu⟩
  · obtain rfl : j = us.length := by omega
    have HF : Hid (true = E) := by
     show _ = _
     rw [← HE.out, okUnits_all (fun i u hu => hpre.out i u (List.getElem?_eq_some_iff.1 hu).1 hu)]
    have HBB := Lib.hid hb; clear hb
    go_wp2
    go_ret2
    exact HP.out _ _ HF.out _ HBB.out
def KCon.party (C : KCon) (p : Int) : Bool := decide (0 ≤ p) && decide (p < C.parties)
def KCon.held (C : KCon) : Bool := C.holders.all (fun p => C.party p)
theorem held_bad {C : KCon} {j : Nat} {x : Int} (hx : C.holders[j]? = some x) (h : C.party x = false) : C.held = false := by
 cases e : C.held with
 | false => rfl
 | true =>
  unfold KCon.held at e
  rw [List.all_eq_true.1 e x (List.mem_of_getElem? hx)] at h
  cases h
theorem held_all {C : KCon} (h : ∀ (j : Nat) (x : Int), C.holders[j]? = some x → C.party x = true) : C.held = true := by
 unfold KCon.held
 rw [List.all_eq_true]
 intro x hx
 obtain ⟨j, hj⟩ := List.getElem?_of_mem hx
 exact h j x hj
set_option maxRecDepth 100000 in
set_option maxHeartbeats 2000000 in
theorem held_any (v : CV) (C : KCon) (w : World) (hC : ConAt w v C) (hp : C.parties ≤ 1000) : Calls Tryz.prog 65 #[v.val C] w (RetB (.bool C.held) w) := by
 obtain ⟨⟨hA, hcp⟩, ⟨uA, ucp⟩, ⟨aA, acp⟩, ⟨kA, kcp⟩, ⟨oA, ocp⟩⟩ := v
 have HH : Hid (At w 1 hA C.holders.length hcp (ints C.holders)) := hC.holders
 have hhx : C.holders.length ≤ 9223372036854775807 := by have h1 := HH.out.2.2.1; have h2 := HH.out.2.2.2; unfold maxLen at h2; omega
 clear hC
 simp only [CV.val, CV.cells]
 generalize hE : C.held = E
 have HE := Lib.hid hE; clear hE
 go_enter Tryz.func65, Tryz.ntmps65
 go_wp2
 obtain ⟨W0, HW0⟩ : ∃ W0, Hid (W0 = w.alloc (.cells #[.int .i64 C.parties, .slice hA C.holders.length hcp, .slice uA C.units.length ucp, .slice aA C.acts.length acp, .slice kA C.clauses.length kcp, .int .i64 C.days, .slice oA C.off.length ocp] 27)) := ⟨_, rfl⟩
 have k0 : W0.cell? ⟨w.heap.size, 0, none⟩ = some (.int .i64 C.parties) := by rw [HW0.out]; go_simp
 have k1 : W0.cell? ⟨w.heap.size, 1, none⟩ = some (.slice hA C.holders.length hcp) := by rw [HW0.out]; go_simp
 have HB : Hid (Below w.heap.size w W0) := by show Below _ _ _; rw [HW0.out]; exact Below.alloc' (Below.refl _ _) _
 rw [← HW0.out]
 go_step3
 go_wp2
 go_step3
 go_wp2
 go_loopg [8] C.holders.length (fun gk v8 wr => ∃ (j : Nat), gk = C.holders.length - j ∧ j ≤ C.holders.length ∧ v8 = .int .i64 j ∧ W0 = wr ∧ Hid (∀ i x, i < j → C.holders[i]? = some x → C.party x = true))
 case atStart => exact ⟨0, rfl, Nat.zero_le _, rfl, rfl, fun i u h => by omega⟩
 case round =>
  obtain ⟨j, hgk, hj, rfl, rfl, hpre⟩ := hrel
  have HGK := Lib.hid hgk; clear hgk
  by_cases hlt : j < C.holders.length
  · obtain ⟨b, off, rfl, hbl, hcell⟩ := (HH.out.below (by omega) HB.out).1.form (by omega) (by omega)
    obtain ⟨x, hx⟩ : ∃ x, C.holders[j]? = some x := ⟨C.holders[j], List.getElem?_eq_getElem hlt⟩
    have kx : W0.cell? ⟨b, off + j, none⟩ = some (.int .i64 x) := by rw [hcell _ (by omega)]; simp [ints, hx]
    clear hcell
    have HX := Lib.hid hx; clear hx
    have j1 : (j : Int) < (C.holders.length : Int) := by omega
    go_wp2
    go_loopg [13] C.parties.toNat (fun gk2 v13 wr => ∃ (p : Nat), gk2 = C.parties.toNat - p ∧ p ≤ C.parties.toNat ∧ v13 = .int .i64 p ∧ W0 = wr ∧ Hid (∀ q : Nat, q < p → x ≠ (q : Int)))
    case atStart => exact ⟨0, rfl, Nat.zero_le _, rfl, rfl, fun q h => by omega⟩
    case round =>
     obtain ⟨p, hgk2, hpp, rfl, rfl, hpre2⟩ := hrel
     have HGK2 := Lib.hid hgk2; clear hgk2
     by_cases hlp : (p : Int) < C.parties
     · cases q : (x == (p : Int)) with
       | true =>
        have hxp : x = p := by simpa using q
        have HOK : Hid (C.party x = true) := by show _ = _; simp [KCon.party, hxp]; omega
        clear hxp
        go_wp2
        go_roundg (C.holders.length - (j + 1))
        case measure => rw [HGK.out]; omega
        case rel => exact ⟨j + 1, rfl, by omega, by go_num, rfl, fun i y hi hy => by
         by_cases e : i = j
         · subst e
           rw [HX.out] at hy
           injection hy with hy
           subst hy
           exact HOK.out
         · exact hpre.out i y (by omega) hy⟩
       | false =>
        have hxp : ¬ x = p := by simpa using q
        have HXP := Lib.hid hxp; clear hxp
        go_wp2
        go_roundg (C.parties.toNat - (p + 1))
        case measure => rw [HGK2.out]; omega
        case rel => exact ⟨p + 1, rfl, by omega, by go_num, rfl, fun r hr => by
         by_cases e : r = p
         · subst e; exact HXP.out
         · exact hpre2.out r (by omega)⟩
     · have hnp : Hid (C.party x = false) := by
        show _ = _
        cases e : C.party x with
        | false => rfl
        | true =>
         simp only [KCon.party, Bool.and_eq_true, decide_eq_true_eq] at e
         exact absurd (by omega) (hpre2.out x.toNat (by omega))
       obtain rfl : E = false := by rw [← HE.out, held_bad HX.out hnp.out]
       have hd : decide ((p : Int) < C.parties) = false := by simpa using hlp
       go_wp2
       (try rw [Exit.noGoto_ret])
       go_ret
       exact ⟨rfl, HB.out⟩
  · obtain rfl : j = C.holders.length := by omega
    obtain rfl : E = true := by rw [← HE.out, held_all (fun i u hu => hpre.out i u (List.getElem?_eq_some_iff.1 hu).1 hu)]
    go_wp2
    (try rw [Exit.noGoto_ret])
    go_ret
    exact ⟨rfl, HB.out⟩
end Go.Proofs.YtahhdjeclbagnaaGreatDoor
