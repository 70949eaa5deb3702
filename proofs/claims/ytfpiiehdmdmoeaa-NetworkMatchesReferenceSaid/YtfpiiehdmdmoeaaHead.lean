/-
  The contract of head: the fixed examples answer true.
-/
import Derived.Test.YtfpiiehdmdmoeaaSend6
import Derived.Test.YtfpiiehdmdmoeaaPlayMem
namespace Go.Proofs.Ytfpiiehdmdmoeaa
open Go.RowKit

def hp (n : UInt8) : Pkt := ⟨0, 1, ⟨#[n]⟩⟩
def hf1 : Fate := ⟨true, 0, 0⟩
def hf2 : Fate := ⟨false, 2, 1⟩
def H0 : Net := Net.new 2 [hf1, hf2]
def H1 : Net := ⟨[hf2], 0, 0, [[], []]⟩
def H2 : Net := ⟨[], 0, 2, [[], [⟨hp 98, 1⟩, ⟨hp 98, 1⟩]]⟩
def H3 : Net := ⟨[], 0, 3, [[], [⟨hp 99, 0⟩, ⟨hp 98, 1⟩, ⟨hp 98, 1⟩]]⟩
def H5 : Net := ⟨[], 1, 2, [[], [⟨hp 98, 1⟩, ⟨hp 98, 1⟩]]⟩
def H6 : Net := ⟨[], 1, 0, [[], []]⟩
theorem h01 : H0.send (hp 97) = (H1, 0) := rfl
theorem h12 : H1.send (hp 98) = (H2, 0) := rfl
theorem h23 : H2.send (hp 99) = (H3, 0) := rfl
theorem h34 : H3.recv 1 = (H2, [hp 99], 0) := rfl
theorem h45 : H2.step = H5 := rfl
theorem h56 : H5.recv 1 = (H6, [hp 98, hp 98], 0) := rfl
theorem h67 : H6.recv 0 = (H6, [], 0) := rfl
theorem h78 : H6.send ⟨0, 0, ByteArray.empty⟩ = (H6, 1) := rfl
theorem ok0 : H0.Ok := Net.new_ok (by decide) (by decide) (by simp [hf1, hf2, Fate.ok])
theorem ok1 : H1.Ok := by have := Net.send_ok ok0 (hp 97); rw [h01] at this; exact this
theorem ok2 : H2.Ok := by have := Net.send_ok ok1 (hp 98); rw [h12] at this; exact this
theorem ok3 : H3.Ok := by have := Net.send_ok ok2 (hp 99); rw [h23] at this; exact this
theorem ok5 : H5.Ok := Net.step_ok ok2 (by decide)
theorem ok6 : H6.Ok := by have := Net.recv_ok ok5 1; rw [h56] at this; exact this

theorem send_at {N N' : Net} {p : Pkt} {er : Int} (e : N.send p = (N', er)) (hok : N.Ok) {w : World} {F : Nat → Prop} {g : Nat} (hr : NetRep w F g N) :
    Calls Try.prog 14 #[.pointer (some ⟨g, 0, none⟩), .agg #[.int .i64 p.frm, .int .i64 p.dst, .string p.body]] w (NetPost (.int .i64 er) F g N' w) := by
  have h := send_net hr hok p
  rw [e] at h
  exact h
theorem recv_at {N N' : Net} {x : Int} {ps : List Pkt} {er : Int} (e : N.recv x = (N', ps, er)) (hok : N.Ok) {w : World} {F : Nat → Prop} {g : Nat} (hr : NetRep w F g N) :
    Calls Try.prog 16 #[.pointer (some ⟨g, 0, none⟩), .int .i64 x] w (RecvPost F g N' ps er w) := by
  have h := recv_net hr hok x
  rw [e] at h
  exact h

theorem src_newN (w : World) (cs : List Value) (size m : Nat) (t : TypeId) (h1 : ∀ u ∈ cs, u.oneCell' = true) (hl : cs.length = m * size) : Src (w.alloc (.cells cs.toArray t)) size (some ⟨w.heap.size, 0, none⟩) m cs :=
  ⟨hl, h1, fun _ => ⟨_, rfl, fun j u hu => by
    rw [Addr.add_lit, Nat.zero_add, cell_of_row _ _ j _ _ _ (heap_alloc_new w _)]
    simpa using hu⟩⟩

theorem new_arr (w : World) : Calls Try.prog 12 #[.int .i64 2, .slice (some ⟨w.heap.size, 0, none⟩) 2 2] (w.alloc (.cells #[.bool true, .int .i64 0, .int .i64 0, .bool false, .int .i64 2, .int .i64 1] 51))
    (NewPost true 2 [hf1, hf2] (w.alloc (.cells #[.bool true, .int .i64 0, .int .i64 0, .bool false, .int .i64 2, .int .i64 1] 51))) :=
  new_any 2 (.slice (some ⟨w.heap.size, 0, none⟩) 2 2) [hf1, hf2] _ ⟨_, _, rfl, src_newN w (flatF [hf1, hf2]) 3 2 51 (one_flatF _) rfl, (fun h => by cases h)⟩ (by decide)
theorem new_bad1 (w : World) : Calls Try.prog 12 #[.int .i64 1, .slice (some ⟨w.heap.size, 0, none⟩) 1 1] (w.alloc (.cells #[.bool false, .int .i64 0, .int .i64 0] 51))
    (NewPost false 1 [⟨false, 0, 0⟩] (w.alloc (.cells #[.bool false, .int .i64 0, .int .i64 0] 51))) :=
  new_any 1 (.slice (some ⟨w.heap.size, 0, none⟩) 1 1) [⟨false, 0, 0⟩] _ ⟨_, _, rfl, src_newN w (flatF [⟨false, 0, 0⟩]) 3 1 51 (one_flatF _) rfl, (fun h => by cases h)⟩ (by decide)

set_option maxRecDepth 100000 in
set_option maxHeartbeats 2000000 in
theorem head_any (w : World) : Calls Try.prog 10 #[] w (RetB (.bool true) w) := by
  go_enter Try.func10, Try.ntmps10
  go_wp2_with fail
  refine (new_arr w).mono ?_
  rintro e w1 ⟨hb1, ⟨hx, _⟩ | ⟨_, g, F, rfl, hr1, hF1⟩⟩
  · cases hx
  have hB1 : Hid (Below w.heap.size w w1) := ((Below.refl _ _).alloc (Nat.le_refl _) _).trans (hb1.mono (by simp))
  have hF : Hid (∀ k, F k → w.heap.size ≤ k) := fun k hk => by have := hF1 k hk; simp at this; omega
  clear hb1 hF1
  have hs1 : Hid (Calls Try.prog 14 #[.pointer (some ⟨g, 0, none⟩), .agg #[.int .i64 0, .int .i64 1, .string ⟨#[97]⟩]] w1 (NetPost (.int .i64 0) F g H1 w1)) := send_at h01 ok0 hr1
  clear hr1
  go_wp2_with fail
  refine hs1.out.mono ?_
  rintro e w2 ⟨rfl, hr2, hu2⟩
  have hs2 : Hid (Calls Try.prog 14 #[.pointer (some ⟨g, 0, none⟩), .agg #[.int .i64 0, .int .i64 1, .string ⟨#[98]⟩]] w2 (NetPost (.int .i64 0) _ g H2 w2)) := send_at h12 ok1 hr2
  have HU2 := Lib.hid hu2; clear hu2 hr2
  go_wp2_with fail
  refine hs2.out.mono ?_
  rintro e w3 ⟨rfl, hr3, hu3⟩
  have hs3 : Hid (Calls Try.prog 14 #[.pointer (some ⟨g, 0, none⟩), .agg #[.int .i64 0, .int .i64 1, .string ⟨#[99]⟩]] w3 (NetPost (.int .i64 0) _ g H3 w3)) := send_at h23 ok2 hr3
  have HU3 := Lib.hid hu3; clear hu3 hr3
  go_wp2_with fail
  refine hs3.out.mono ?_
  rintro e w4 ⟨rfl, hr4, hu4⟩
  obtain ⟨F4, HR4, HF4, HB4⟩ : ∃ F4, Hid (NetRep w4 F4 g H3) ∧ Hid (∀ k, F4 k → w.heap.size ≤ k) ∧ Hid (Below w.heap.size w w4) := by
    have hsz1 := hB1.out.size
    have hsz2 := HU2.out.size
    have hsz3 := HU3.out.size
    refine ⟨_, hr4, fun k hk => ?_, ?_⟩
    · rcases hk with (((hk | hk) | hk) | hk)
      · exact hF.out k hk
      · omega
      · omega
      · omega
    · refine ((hB1.out.trans (HU2.out.below hsz1 hF.out)).trans (HU3.out.below (by omega) (fun k hk => ?_))).trans (hu4.below (by omega) (fun k hk => ?_))
      · rcases hk with hk | hk
        · exact hF.out k hk
        · omega
      · rcases hk with ((hk | hk) | hk)
        · exact hF.out k hk
        · omega
        · omega
  clear hr4 hu4 hs1 hs2 hs3 HU2 HU3 hB1 hF
  go_wp2_with fail
  have hw4 : Hid (Calls Try.prog 21 #[.pointer (some ⟨g, 0, none⟩)] w4 (Ret (.int .i64 3) w4)) := waiting_net HR4.out
  refine hw4.out.mono ?_
  rintro e w' ⟨rfl, rfl⟩
  have hs5 : Hid (Calls Try.prog 16 #[.pointer (some ⟨g, 0, none⟩), .int .i64 1] w4 (RecvPost F4 g H2 [hp 99] 0 w4)) := recv_at h34 ok3 HR4.out
  go_wp2_with fail
  refine hs5.out.mono ?_
  rintro e w5 ⟨v5, b5, rfl, hrow5, hn5, hr5, hu5⟩
  obtain ⟨A5, c5, rfl, _, _⟩ := hrow5.val
  have hB5 : Hid (Below w.heap.size w w5) := HB4.out.trans (hu5.below HB4.out.size HF4.out)
  have hnF5 : Hid (∀ k, b5 = some k → ¬ F4 k) := fun k hk hc => by have h1 := hn5 k hk; have h2 := HR4.out.lt k hc; omega
  have HR5 := Lib.hid hr5; clear hr5
  have HROW5 := Lib.hid hrow5; clear hrow5
  clear hu5 hn5 hs5 hw4
  have hs6 : Hid (Calls Try.prog 19 #[.pointer (some ⟨g, 0, none⟩)] w5 (NetPost (.tuple #[]) F4 g H5 w5)) := step_net HR5.out (by decide)
  go_wp2_with fail
  refine hs6.out.mono ?_
  rintro e w6 ⟨rfl, hr6, hu6⟩
  have hB6 : Hid (Below w.heap.size w w6) := hB5.out.trans (hu6.below hB5.out.size HF4.out)
  have hrow6 : Hid (RowAt w6 31 3 (.slice A5 1 c5) 1 (flatP [hp 99]) b5) := HROW5.out.keep hu6 hnF5.out
  obtain ⟨F6, HR6, HF6, HD6⟩ : ∃ F6, Hid (NetRep w6 F6 g H5) ∧ Hid (∀ k, F6 k → w.heap.size ≤ k) ∧ Hid (∀ k, b5 = some k → ¬ F6 k) := by
    have hsz := hB5.out.size
    refine ⟨_, hr6, fun k hk => ?_, fun k hk hc => ?_⟩
    · rcases hk with hk | hk
      · exact HF4.out k hk
      · omega
    · rcases hc with hc | hc
      · exact hnF5.out k hk hc
      · have := HROW5.out.lt hk; omega
  clear hr6 hu6 hs6 hnF5 HROW5 HR5 HR4 HF4 HB4 hB5
  have hs7 : Hid (Calls Try.prog 16 #[.pointer (some ⟨g, 0, none⟩), .int .i64 1] w6 (RecvPost F6 g H6 [hp 98, hp 98] 0 w6)) := recv_at h56 ok5 HR6.out
  go_wp2_with fail
  refine hs7.out.mono ?_
  rintro e w7 ⟨v7, b7, rfl, hrow7, hn7, hr7, hu7⟩
  obtain ⟨A7, c7, rfl, _, _⟩ := hrow7.val
  have hB7 : Hid (Below w.heap.size w w7) := hB6.out.trans (hu7.below hB6.out.size HF6.out)
  have hrow57 : Hid (RowAt w7 31 3 (.slice A5 1 c5) 1 (flatP [hp 99]) b5) := hrow6.out.keep hu7 HD6.out
  have hD7 : Hid (∀ k, b7 = some k → ¬ F6 k) := fun k hk hc => by have h1 := hn7 k hk; have h2 := HR6.out.lt k hc; omega
  have HR7 := Lib.hid hr7; clear hr7
  have HROW7 := Lib.hid hrow7; clear hrow7
  clear hu7 hn7 hs7 hrow6 hB6
  have hs8 : Hid (Calls Try.prog 16 #[.pointer (some ⟨g, 0, none⟩), .int .i64 0] w7 (RecvPost F6 g H6 [] 0 w7)) := recv_at h67 ok6 HR7.out
  go_wp2_with fail
  refine hs8.out.mono ?_
  rintro e w8 ⟨v8, b8, rfl, hrow8, hn8, hr8, hu8⟩
  obtain ⟨A8, c8, rfl, _, _⟩ := hrow8.val
  have hB8 : Hid (Below w.heap.size w w8) := hB7.out.trans (hu8.below hB7.out.size HF6.out)
  have r5 := hrow57.out.keep hu8 HD6.out
  have r7 := HROW7.out.keep hu8 hD7.out
  have HR8 := Lib.hid hr8; clear hr8
  clear hu8 hn8 hs8 hrow8 hrow57 hB7 hD7 HROW7 HR7 HR6 HD6
  obtain ⟨g5, o5, c5', _, e5, _, _, _, hc5, _⟩ := r5.form (by decide)
  injection e5 with e5 _ _
  subst e5
  obtain ⟨g7, o7, c7', _, e7, _, _, _, hc7, _⟩ := r7.form (by decide)
  injection e7 with e7 _ _
  subst e7
  have x5 : w8.cell? ⟨g5, o5 + 2, none⟩ = some (.string ⟨#[99]⟩) := hc5 2 (by decide)
  have x7 : w8.cell? ⟨g7, o7 + 2, none⟩ = some (.string ⟨#[98]⟩) := hc7 2 (by decide)
  have x7' : w8.cell? ⟨g7, o7 + 3 + 2, none⟩ = some (.string ⟨#[98]⟩) := hc7 5 (by decide)
  clear hc5 hc7 r5 r7
  go_wp2_with fail
  refine (recv_nil 0 w8).mono ?_
  rintro e w9 ⟨rfl, rfl⟩
  go_wp2_with fail
  have hw8 : Hid (Calls Try.prog 21 #[.pointer (some ⟨g, 0, none⟩)] w8 (Ret (.int .i64 0) w8)) := waiting_net HR8.out
  refine hw8.out.mono ?_
  rintro e w9 ⟨rfl, rfl⟩
  have hs9 : Hid (Calls Try.prog 14 #[.pointer (some ⟨g, 0, none⟩), .agg #[.int .i64 0, .int .i64 0, .string ByteArray.empty]] w8 (NetPost (.int .i64 1) F6 g H6 w8)) := send_at h78 ok6 HR8.out
  clear x5 x7 x7' hw8
  go_wp2_with fail
  refine hs9.out.mono ?_
  rintro e w9 ⟨rfl, _, hu9⟩
  have hB9 : Hid (Below w.heap.size w w9) := hB8.out.trans (hu9.below hB8.out.size HF6.out)
  clear hu9 hs9 hB8
  go_wp2_with fail
  refine (new_far 0 none 0 0 w9 (.inl (by decide))).mono ?_
  rintro e wa ⟨rfl, hba⟩
  have hBa : Hid (Below w.heap.size w wa) := hB9.out.trans (hba.mono hB9.out.size)
  clear hba hB9
  go_wp2_with fail
  refine (new_bad1 wa).mono ?_
  rintro e wb ⟨hbb, ⟨_, rfl⟩ | ⟨hx, _⟩⟩
  rotate_left
  · cases hx
  have hBb : Hid (Below w.heap.size w wb) := (hBa.out.alloc hBa.out.size _).trans (hbb.mono (Nat.le_trans hBa.out.size (by simp)))
  clear hbb hBa
  go_wp2_with fail
  go_ret
  exact ⟨rfl, hBb.out⟩
end Go.Proofs.Ytfpiiehdmdmoeaa
