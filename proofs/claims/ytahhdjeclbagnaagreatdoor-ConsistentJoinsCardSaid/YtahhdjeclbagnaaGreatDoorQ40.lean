/-
  CtK
-/
import Derived.Laws.EntriesVeiled
import Derived.Test.YtahhdjeclbagnaaGreatDoorQ36
namespace Go.Proofs.YtahhdjeclbagnaaGreatDoor
open Go.RowKit Go.Shelf
attribute [local go_sem] Oper.semAt_some
def COk (n : Nat) (w0 b : Nat) (pre : List (Nat × List Int)) (x : Nat × List Int) (V : World) : Prop := pre.length < 400 ∧ x.2.length = n ∧ Own V 3 x.1 (ints x.2) ∧ b ≤ V.heap.size ∧ w0 ≤ x.1 ∧ x.1 < b
def COkL (n : Nat) (w0 b : Nat) (pre : List (Nat × List Int)) (x : Nat × List Int) (V : World) : Prop := pre.length = 400 ∧ x.2.length = n ∧ Own V 3 x.1 (ints x.2) ∧ b ≤ V.heap.size ∧ w0 ≤ x.1 ∧ x.1 < b
theorem zeros_made (n : Nat) : ints (List.replicate n 0) = (madeCells #[Value.int .i64 0] n).toList := by
 apply List.ext_getElem?
 intro j
 simp [ints, madeCells]
 rcases Nat.lt_or_ge j n with h | h
 · simp [h, Nat.mod_one]
 · simp [h]
theorem choicesM_any (s : Nat) (w : World) : Calls Tryz.prog 33 #[.pointer (some ⟨s, 0, none⟩)] w (fun e w' => e = .returned (.func (.func 51) #[] #[.pointer (some ⟨w.heap.size, 0, none⟩)]) ∧ w' = w.alloc (.cells #[.pointer (some ⟨s, 0, none⟩)] 74)) := by
 go_enter Tryz.func33, Tryz.ntmps33
 go_wp2
 go_ret
 exact ⟨rfl, rfl⟩
set_option maxRecDepth 100000 in
set_option maxHeartbeats 4000000 in
theorem choices_iter {X : SX} {P : List (Nat × Nat)} {lo hi : Nat → Int} {A : Option Addr} {oc : Nat} {Bs : Nat} (n : Nat) (hn1 : 1 ≤ n) (I : Nat → List (Nat × List Int) → World → Prop) (W : World) (hS : SearchAt W X lo hi A oc []) (hBs : Own W 74 Bs [.pointer (some ⟨X.sb, 0, none⟩)]) (hB : Bnd X.n lo hi P) (hrg : ∀ i, i < X.n → -1000000 ≤ lo i ∧ hi i ≤ 1000000) (hLb : X.Lb = befTo P X.n P.length) (hLa : X.La = aftTo P X.n P.length) (hn : X.n ≤ 400) (hP : P.length ≤ 4000) :
 SeqG Fence.wide n Tryz.prog 51 #[.pointer (some ⟨Bs, 0, none⟩)] (fun (_ : Nat) (x : Nat × List Int) => #[.slice (some ⟨x.1, 0, none⟩) X.n X.n]) (fun b => MvB X (W.heap.size, b)) (fun b => KpB X Bs (W.heap.size, b)) I (COk X.n W.heap.size) (COkL X.n W.heap.size)
  (fun xs => IsEnum X.n lo hi P (xs.map Prod.snd) ∧ xs.length ≤ 400) (fun _ => ∃ Y, IsEnum X.n lo hi P Y ∧ 400 < Y.length) W := by
 intro l J JL hJI hJ0 hJm hJLm hY hYL
 have HJ0 := Lib.hid hJ0; clear hJ0
 have HJM := Lib.hid hJm; clear hJm
 have HJLM := Lib.hid hJLm; clear hJLm
 have HY := Lib.hid hY; clear hY
 have HYL := Lib.hid hYL; clear hYL
 have HS := Lib.hid hS; clear hS
 have HBS := Lib.hid hBs; clear hBs
 have HB := Lib.hid hB; clear hB
 have HRG := Lib.hid hrg; clear hrg
 have HLB := Lib.hid hLb; clear hLb
 have HLA := Lib.hid hLa; clear hLa
 clear hJI
 have c1 : W.cell? ⟨Bs, 0, none⟩ = some (.pointer (some ⟨X.sb, 0, none⟩)) := HBS.out.cell rfl
 have s0 : W.cell? ⟨X.sb, 0, none⟩ = some (.slice (some ⟨X.bb, 0, none⟩) X.n X.n) := HS.out.box.cell rfl
 have l1 : Bs < W.heap.size := HBS.out.lt
 have l2 : X.sb < W.heap.size := HS.out.box.lt
 refine callsIn_of_wp Tryz.func51 rfl trivial ?_ rfl
 simp only [Tryz.ntmps51, List.size_toArray, List.length_cons, List.length_nil, Nat.reduceAdd, Nat.reduceSub, Array.replicate_succ, Array.replicate_zero, List.push_toArray, List.append_toArray, List.nil_append, List.cons_append]
 gi_upto_region 1 with (fail)
 generalize hW0 : World.alloc _ _ = W0
 obtain ⟨HB0, hh0⟩ := bx1 hW0
 have HYB : Hid (Own W0 116 W.heap.size [.func (.yield l) #[] #[]]) := ⟨[], by rw [List.append_nil]; exact hh0⟩
 have hs0 : W0.heap.size = W.heap.size + 1 := by rw [← hW0, World.size_alloc]
 clear hW0 hh0
 have c2 : W0.cell? ⟨Bs, 0, none⟩ = some (.pointer (some ⟨X.sb, 0, none⟩)) := (HB0.out.cell (p := ⟨Bs, 0, none⟩) l1).trans c1
 have s2 : W0.cell? ⟨X.sb, 0, none⟩ = some (.slice (some ⟨X.bb, 0, none⟩) X.n X.n) := (HB0.out.cell (p := ⟨X.sb, 0, none⟩) l2).trans s0
 obtain ⟨ip, hip, hpz, hps, hpb⟩ := info_parts' (P := Tryz.prog) (t := 3) (z := some (.int .i64 0)) (s := 1) (b := 8) (by kernel_rfl)
 have hmk := run_makeSlice (P := Tryz.prog) (w := W0) 22 3 ip _ Tryz.underlying22 hip hpz .i64 .i64 (X.n : Int) (X.n : Int) (by omega) (by omega) (by rw [hps]; simp; omega) (by rw [hpb]; omega) (by omega)
 simp only [Int.toNat_natCast, hps] at hmk
 have HSZ0 := Lib.hid hs0
 clear hs0
 gi_upto_region 3 with (fail)
 obtain ⟨nb, hnb⟩ : ∃ nb, nb = W0.heap.size := ⟨_, rfl⟩
 rw [← hnb]
 generalize hW1 : World.alloc W0 _ = W1
 have hb1 : Below W0.heap.size W0 W1 := by rw [← hW1]; exact Below.alloc' (Below.refl _ _) _
 have ho1 : Own W1 3 nb (ints (List.replicate X.n 0)) := by
  refine ⟨[], ?_⟩
  rw [List.append_nil, zeros_made, Array.toArray_toList, ← hW1, hnb]
  exact heap_alloc_new W0 _
 have hs1 : W1.heap.size = nb + 1 := by rw [← hW1, World.size_alloc, hnb]
 clear hW1
 generalize hW2 : World.alloc W1 _ = W2
 have hb2 : Below W1.heap.size W1 W2 := by rw [← hW2]; exact Below.alloc' (Below.refl _ _) _
 have ho2 : Own W2 22 (nb + 1) [.slice (some ⟨nb, 0, none⟩) X.n X.n] := ⟨[], by rw [← hW2, ← hs1]; exact heap_alloc_new W1 _⟩
 have hs2 : W2.heap.size = nb + 1 + 1 := by rw [← hW2, World.size_alloc, hs1]
 clear hW2
 generalize hW3 : World.alloc W2 _ = W3
 have hb3 : Below W2.heap.size W2 W3 := by rw [← hW3]; exact Below.alloc' (Below.refl _ _) _
 have ho3 : Own W3 117 (nb + 1 + 1) [.nilFunc] := ⟨[], by rw [← hW3, ← hs2]; exact heap_alloc_new W2 _⟩
 have hs3 : W3.heap.size = nb + 1 + 1 + 1 := by rw [← hW3, World.size_alloc, hs2]
 clear hW3
 have HO1 := Lib.hid ((ho1.below hb2).below hb3)
 have HO2 := Lib.hid (ho2.below hb3)
 have HO3 := Lib.hid ho3
 have HB3 : Hid (Below W.heap.size W W3) := Below.step (Below.step (Below.step HB0.out hb1) hb2) hb3
 have HYB3 := Lib.hid (((HYB.out.below hb1).below hb2).below hb3)
 have HS3 := Lib.hid hs3
 have HNB : Hid (nb = W.heap.size + 1) := by show _ = _; rw [hnb]; exact HSZ0.out
 clear hb1 hb2 hb3 ho1 ho2 ho3 hs1 hs2 hs3 hnb hmk c1 c2 s0 s2 HYB HSZ0 hip hpz hps hpb HB0
 have v0 := HO3.out.cell (i := 0) rfl
 have f0 := HO3.out.frozen 0
 gi_upto_region 4 with (fail)
 generalize hW4 : World.setCell _ _ _ = W4
 have hu : Upd (fun k => k = nb + 1 + 1) W3 W4 := by rw [← hW4]; exact (Upd.refl (fun k => k = nb + 1 + 1) W3).setCell (p := ⟨nb + 1 + 1, 0, none⟩) (.inl rfl) _
 have ho4 : Own W4 117 (nb + 1 + 1) [.func (.func 52) #[] #[.pointer (some ⟨nb + 1, 0, none⟩), .pointer (some ⟨Bs, 0, none⟩), .pointer (some ⟨W.heap.size, 0, none⟩), .pointer (some ⟨nb + 1 + 1, 0, none⟩)]] := by rw [← hW4]; exact HO3.out.set (i := 0) (by simp) _
 have hnb := HNB.out
 have HB4 : Hid (Below W.heap.size W W4) := HB3.out.trans (hu.below HB3.out.size (fun k hk => by omega))
 have hz4 : nb + 3 ≤ W4.heap.size := by have := hu.size; have := HS3.out; omega
 have hlow : ∀ v, v ∈ X.vb ∨ v ∈ X.va → ∀ q, v.ownBlock = some q → q < W.heap.size := fun v hv q hq => by
  rcases hv with hv | hv
  · exact (HS.out.bef.low v hv q hq).2.1
  · exact (HS.out.aft.low v hv q hq).2.1
 have HIT : Hid (ItAt W4 X Bs (W.heap.size, nb + 3) l ⟨nb, W.heap.size, nb + 1, nb + 1 + 1⟩) :=
  ⟨fun k hk => by simp only at hk ⊢; omega, HYB3.out.keep hu (by omega), HO2.out.keep hu (by omega), ho4, HBS.out.below HB4.out, ⟨_, by simp, HO1.out.keep hu (by omega)⟩, hlow, hz4⟩
 have HS4 := Lib.hid (HS.out.below HB4.out)
 have HJ4 : Hid (J (nb + 3) [] W4) := HJ0.out (nb + 3) W4 HB4.out (by omega)
 have hYD : YieldsC X Bs (W.heap.size, nb + 3) l nb (fun pre V => J (nb + 3) (pre.map (fun y => (nb, y))) V) (fun pre V => JL (nb + 3) (pre.map (fun y => (nb, y))) V) := by
  refine ⟨fun pre x V h hok => ?_, fun pre x V h hok => ?_, fun pre V V' h hm => HJM.out _ _ _ _ h hm, fun pre V V' h hm => HJLM.out _ _ _ _ h hm⟩
  · have h1 := HY.out (nb + 3) (pre.map (fun y => (nb, y))) (nb, x) V h ⟨by rw [List.length_map]; exact hok.1, hok.2.1, hok.2.2.1, hok.2.2.2, by simp only; omega, by simp only; omega⟩
    rw [show pre.map (fun y => (nb, y)) ++ [(nb, x)] = (pre ++ [x]).map (fun y => (nb, y)) by simp] at h1
    exact YieldAt.depth rfl h1
  · have h1 := HYL.out (nb + 3) (pre.map (fun y => (nb, y))) (nb, x) V h ⟨by rw [List.length_map]; exact hok.1, hok.2.1, hok.2.2.1, hok.2.2.2, by simp only; omega, by simp only; omega⟩
    rw [show pre.map (fun y => (nb, y)) ++ [(nb, x)] = (pre ++ [x]).map (fun y => (nb, y)) by simp] at h1
    exact YieldAt.depth rfl h1
 have hv := visit_any (I := ⟨nb, W.heap.size, nb + 1, nb + 1 + 1⟩) (Lib.hid hYD) HLB HLA hn hP X.n 0 (by omega) lo hi A oc [] [] W4 HS4.out HB.out (fun i hi' => absurd hi' (Nat.not_lt_zero _)) HRG.out HIT.out HJ4.out (by simp) (by simp)
 rw [show (((0 : Nat)) : Int) = 0 from rfl] at hv
 have HV := Lib.hid hv
 have v4 := ho4.cell (i := 0) rfl
 clear hv hYD hlow hz4 hnb ho4 hu hW4 v0 f0
 gi_wp2_with (refine ⟨trivial, ?_⟩; gi_at_call 52; refine (callsIn_wide.2 HV.out).mono ?_; rintro e W5 ⟨more, Z, A5, oc5, rfl, hz, hsz5, hbk5, hit5, hs5, hmt, hmf⟩; refine Hid.out ?_)
 refine Lib.hid ?_
 have HZ := Lib.hid hz
 have HMT := Lib.hid hmt
 have HMF := Lib.hid hmf
 clear hz hsz5 hbk5 hit5 hs5 hmt hmf
 gi_wp2
 go_end0
 refine ⟨⟨_, rfl⟩, nb + 3, by have := HNB.out; omega, ?_⟩
 cases more with
 | true =>
  obtain ⟨h1, h2⟩ := HMT.out rfl
  rw [List.nil_append] at h1 h2
  exact .inl ⟨_, ⟨by rw [List.map_map, show (Prod.snd ∘ fun y : List Int => (nb, y)) = id from rfl, List.map_id]; exact HZ.out, by rw [List.length_map]; exact h1⟩, h2⟩
 | false =>
  obtain ⟨h1, Y1, h2⟩ := HMF.out rfl
  rw [List.nil_append] at h1 h2
  exact .inr ⟨_, ⟨Z, HZ.out, h1⟩, h2⟩
end Go.Proofs.YtahhdjeclbagnaaGreatDoor
