/-
  HeadP; HeadQ
-/
import Derived.Test.YtaielhafpmjkaaaGreatDoorQ34
import Derived.Test.YtaielhafpmjkaaaGreatDoorQ11
namespace Go.Proofs.YtaielhafpmjkaaaGreatDoor
open Go.RowKit Go.Shelf
theorem Reach.sub {C : KCon} {p : Int} {l S : List KState} (h0 : ∀ s ∈ l, s ∈ S) (h1 : ∀ s ∈ S, s.day < C.days → ∀ x ∈ C.hid s p, C.next s x ∈ S) {s : KState} (h : Reach C p l s) : s ∈ S := by
 induction h with
 | base hs => exact h0 _ hs
 | step _ hd hx ih => exact h1 _ ih hd _ hx
theorem nodup_len {F S : List KState} (hn : F.Nodup) (hs : ∀ s ∈ F, s ∈ S) : F.length ≤ S.length := by
 induction F generalizing S with
 | nil => exact Nat.zero_le _
 | cons a F ih =>
  obtain ⟨S1, S2, rfl⟩ := List.append_of_mem (hs a (List.mem_cons_self))
  rw [List.nodup_cons] at hn
  have h1 := ih (S := S1 ++ S2) hn.2 (fun s hs' => by
   have h2 := hs s (List.mem_cons_of_mem _ hs')
   rw [List.mem_append, List.mem_cons] at h2
   rw [List.mem_append]
   rcases h2 with h2 | rfl | h2
   · exact .inl h2
   · exact absurd hs' hn.1
   · exact .inr h2)
  simp only [List.length_append, List.length_cons] at h1 ⊢
  omega
theorem IsClo.nodup {C : KCon} {p : Int} {l r : List KState} (h : IsClo C p l r) : r.Nodup := by
 have h1 := h.sorted
 rw [List.pairwise_map] at h1
 refine h1.imp ?_
 intro a b hlt e
 subst e
 exact absurd hlt (List.lt_irrefl _)
theorem TooMany.not {C : KCon} {p : Int} {l S : List KState} (h0 : ∀ s ∈ l, s ∈ S) (h1 : ∀ s ∈ S, s.day < C.days → ∀ x ∈ C.hid s p, C.next s x ∈ S) (hl : S.length ≤ 300) : ¬ TooMany C p l := by
 rintro ⟨F, hn, h3, hr⟩
 have := nodup_len hn (fun s hs => (hr s hs).sub h0 h1)
 omega
def ex0 : KState := exC.first
def exS : KState := exC.next ex0 0
def exT : KState := exC.next ex0 (-1)
def exU : KState := exC.next exS (-1)
theorem IsClo.one {C : KCon} {p : Int} {a : KState} {r : List KState} (h : IsClo C p [a] r) (hh : C.hid a p = []) : r = [a] := by
 have hsub : ∀ s ∈ r, s ∈ [a] := fun s hs => (h.reach s hs).sub (fun _ h => h) (fun s hs hd x hx => by
  rw [List.mem_singleton] at hs
  subst hs
  rw [hh] at hx
  cases hx)
 have hl := nodup_len h.nodup hsub
 have ha := h.has a (List.mem_singleton.2 rfl)
 match r, hl, ha, hsub with
 | [x], _, ha, _ => rw [List.mem_singleton] at ha; rw [ha]
theorem IsClo.two {C : KCon} {p : Int} {a b : KState} {l r : List KState} (h : IsClo C p l r) (hne : a ≠ b) (h0 : ∀ s ∈ l, s ∈ [a, b]) (h1 : ∀ s ∈ [a, b], s.day < C.days → ∀ x ∈ C.hid s p, C.next s x ∈ [a, b]) (h2 : ∀ s ∈ [a, b], s ∈ r) : r = [a, b] ∨ r = [b, a] := by
 have hl := nodup_len h.nodup (fun s hs => (h.reach s hs).sub h0 h1)
 have hl2 := nodup_len (F := [a, b]) (S := r) (by simp [hne]) h2
 have ha := h2 a (by simp)
 have hb := h2 b (by simp)
 match r, hl, hl2, ha, hb with
 | [x, y], _, _, ha, hb =>
  simp only [List.mem_cons, List.not_mem_nil, or_false] at ha hb
  rcases ha with rfl | rfl
  · rcases hb with rfl | rfl
    · exact absurd rfl hne
    · exact .inl rfl
  · rcases hb with rfl | rfl
    · exact .inr rfl
    · exact absurd rfl hne
theorem Watched.inv {C : KCon} {p : Int} {l : List Int} {r : List KState} (h : Watched C p l r) : (l = [] ∧ C.startOk p ∧ IsClo C p [C.first] r) ∨ ∃ l0 x r0, l = l0 ++ [x] ∧ Watched C p l0 r0 ∧ AfterOk C p x r0 r := by
 cases h with
 | nil h1 h2 => exact .inl ⟨rfl, h1, h2⟩
 | snoc h1 h2 => exact .inr ⟨_, _, _, rfl, h1, h2⟩
theorem Watched.inv_nil {C : KCon} {p : Int} {r : List KState} (h : Watched C p [] r) : C.startOk p ∧ IsClo C p [C.first] r := by
 rcases h.inv with ⟨_, h1⟩ | ⟨l0, x, r0, e, _⟩
 · exact h1
 · simp at e
theorem Watched.inv_snoc {C : KCon} {p : Int} {l0 : List Int} {x : Int} {r : List KState} (h : Watched C p (l0 ++ [x]) r) : ∃ r0, Watched C p l0 r0 ∧ AfterOk C p x r0 r := by
 rcases h.inv with ⟨e, _⟩ | ⟨l1, y, r0, e, h1, h2⟩
 · simp at e
 · obtain ⟨rfl, e2⟩ := List.append_inj' e rfl
   injection e2 with e2
   subst e2
   exact ⟨r0, h1, h2⟩
theorem ex_valid : exC.valid = true := by kernel_rfl
theorem ex0_1 : exC.hid ex0 1 = [] := by kernel_rfl
theorem ex0_2 : exC.hid ex0 2 = [0] := by kernel_rfl
theorem exS_1 : exC.hid exS 1 = [] := by kernel_rfl
theorem exS_2 : exC.hid exS 2 = [] := by kernel_rfl
theorem exT_1 : exC.hid exT 1 = [] := by kernel_rfl
theorem exT_2 : exC.hid exT 2 = [] := by kernel_rfl
theorem exU_1 : exC.hid exU 1 = [] := by kernel_rfl
theorem exU_2 : exC.hid exU 2 = [] := by kernel_rfl
theorem ex_ne : ex0 ≠ exS := fun e => by
 have h : (ex0.marks.map (fun m => m.status)) = (exS.marks.map (fun m => m.status)) := by rw [e]
 exact absurd h (by decide)
theorem exT_ne : exT ≠ exU := fun e => by
 have h : (exT.marks.map (fun m => m.status)) = (exU.marks.map (fun m => m.status)) := by rw [e]
 exact absurd h (by decide)
theorem ex_start1 : exC.startOk 1 := ⟨ex_valid, by decide, by decide⟩
theorem ex_start2 : exC.startOk 2 := ⟨ex_valid, by decide, by decide⟩
theorem ex_clo1 {r : List KState} (h : IsClo exC 1 [exC.first] r) : r = [ex0] := IsClo.one (a := ex0) h ex0_1
theorem ex_closed2 : ∀ s ∈ [ex0, exS], s.day < exC.days → ∀ x ∈ exC.hid s 2, exC.next s x ∈ [ex0, exS] := by
 intro s hs _ x hx
 simp only [List.mem_cons, List.not_mem_nil, or_false] at hs
 rcases hs with rfl | rfl
 · rw [ex0_2, List.mem_singleton] at hx
   subst hx
   exact List.mem_cons_of_mem _ (List.mem_singleton.2 rfl)
 · rw [exS_2] at hx
   cases hx
theorem ex_clo2 {r : List KState} (h : IsClo exC 2 [exC.first] r) : r = [ex0, exS] ∨ r = [exS, ex0] := by
 have h0 : ex0 ∈ r := h.has ex0 (List.mem_singleton.2 rfl)
 have hS : exS ∈ r := h.closed ex0 h0 (by decide) 0 (by rw [ex0_2]; exact List.mem_singleton.2 rfl)
 exact h.two ex_ne (fun s hs => by rw [List.mem_singleton] at hs; rw [hs]; exact List.mem_cons_self) ex_closed2 (fun s hs => by
  simp only [List.mem_cons, List.not_mem_nil, or_false] at hs
  rcases hs with rfl | rfl
  · exact h0
  · exact hS)
theorem closed_one {p : Int} {a : KState} (hh : exC.hid a p = []) : ∀ s ∈ [a], s.day < exC.days → ∀ x ∈ exC.hid s p, exC.next s x ∈ [a] := by
 intro s hs _ x hx
 rw [List.mem_singleton] at hs
 subst hs
 rw [hh] at hx
 cases hx
theorem ex_startEr1 {er : Int} : ¬ StartEr exC 1 er := by
 rintro (⟨_, h⟩ | ⟨_, _, h⟩)
 · exact h ex_start1
 · exact TooMany.not (S := [ex0]) (fun _ h => h) (closed_one ex0_1) (by decide) h
theorem ex_startEr2 {er : Int} : ¬ StartEr exC 2 er := by
 rintro (⟨_, h⟩ | ⟨_, _, h⟩)
 · exact h ex_start2
 · exact TooMany.not (S := [ex0, exS]) (fun s hs => by rw [List.mem_singleton] at hs; rw [hs]; exact List.mem_cons_self) ex_closed2 (by decide) h
theorem ex_tick : exC.stepOk (-1) := .inl rfl
theorem ex_zero : exC.stepOk 0 := .inr ⟨by decide, by decide⟩
theorem ex_n1 : exC.nexts 1 (-1) [ex0] = [exT] := by kernel_rfl
theorem ex_n2 : exC.nexts 1 0 [ex0] = [exS] := by kernel_rfl
theorem ex_n3 : exC.nexts 1 (-1) [exS] = [exU] := by kernel_rfl
theorem ex_n4 : exC.nexts 2 (-1) [ex0, exS] = [exT, exU] := by kernel_rfl
theorem ex_n5 : exC.nexts 2 (-1) [exS, ex0] = [exU, exT] := by kernel_rfl
theorem ex_n6 : exC.nexts 2 0 [ex0, exS] = [] := by kernel_rfl
theorem ex_n7 : exC.nexts 2 0 [exS, ex0] = [] := by kernel_rfl
theorem ex_w1 {r : List KState} (h : Watched exC 1 [-1] r) : r = [exT] := by
 obtain ⟨r0, h0, _, _, h1⟩ := Watched.inv_snoc (l0 := []) h
 rw [ex_clo1 h0.inv_nil.2, ex_n1] at h1
 exact h1.one exT_1
theorem ex_w2 {r : List KState} (h : Watched exC 1 [0] r) : r = [exS] := by
 obtain ⟨r0, h0, _, _, h1⟩ := Watched.inv_snoc (l0 := []) h
 rw [ex_clo1 h0.inv_nil.2, ex_n2] at h1
 exact h1.one exS_1
theorem ex_w3 {r : List KState} (h : Watched exC 1 [0, -1] r) : r = [exU] := by
 obtain ⟨r0, h0, _, _, h1⟩ := Watched.inv_snoc (l0 := [0]) h
 rw [ex_w2 h0, ex_n3] at h1
 exact h1.one exU_1
theorem closed_TU : ∀ s ∈ [exT, exU], s.day < exC.days → ∀ x ∈ exC.hid s 2, exC.next s x ∈ [exT, exU] := by
 intro s hs _ x hx
 simp only [List.mem_cons, List.not_mem_nil, or_false] at hs
 rcases hs with rfl | rfl
 · rw [exT_2] at hx; cases hx
 · rw [exU_2] at hx; cases hx
theorem ex_w4 {r : List KState} (h : Watched exC 2 [-1] r) : r = [exT, exU] ∨ r = [exU, exT] := by
 obtain ⟨r0, h0, _, _, h1⟩ := Watched.inv_snoc (l0 := []) h
 rcases ex_clo2 h0.inv_nil.2 with rfl | rfl
 · rw [ex_n4] at h1
   exact h1.two exT_ne (fun _ h => h) closed_TU h1.has
 · rw [ex_n5] at h1
   have hm : ∀ s, s ∈ [exT, exU] → s ∈ [exU, exT] := fun s hs => by simp only [List.mem_cons, List.not_mem_nil, or_false] at hs ⊢; exact hs.symm
   exact h1.two exT_ne (fun s hs => by simp only [List.mem_cons, List.not_mem_nil, or_false] at hs ⊢; exact hs.symm) closed_TU (fun s hs => h1.has s (hm s hs))
theorem afterEr_one {p x : Int} {b : List KState} {a : KState} (hx : exC.stepOk x) (hn : exC.nexts p x b = [a]) (hh : exC.hid a p = []) {er : Int} : ¬ AfterEr exC p x b er := by
 rintro (⟨_, h⟩ | ⟨_, ⟨_, h⟩ | ⟨_, h⟩⟩)
 · exact h hx
 · rw [hn] at h; cases h
 · rw [hn] at h
   exact TooMany.not (S := [a]) (fun _ h => h) (closed_one hh) (by simp) h
theorem afterEr_two {b : List KState} (hn : exC.nexts 2 (-1) b = [exT, exU] ∨ exC.nexts 2 (-1) b = [exU, exT]) {er : Int} : ¬ AfterEr exC 2 (-1) b er := by
 rintro (⟨_, h⟩ | ⟨_, ⟨_, h⟩ | ⟨_, h⟩⟩)
 · exact h ex_tick
 · rcases hn with hn | hn <;> rw [hn] at h <;> cases h
 · refine TooMany.not (S := [exT, exU]) (fun s hs => ?_) closed_TU (by decide) h
   rcases hn with hn | hn <;> rw [hn] at hs <;> simp only [List.mem_cons, List.not_mem_nil, or_false] at hs ⊢
   · exact hs
   · exact hs.symm
theorem ex_we1 {er : Int} : ¬ WatchEr exC 1 [-1] er := by
 rintro (h | ⟨_, h⟩ | ⟨k, r, x, hk, hw, h⟩)
 · exact ex_startEr1 h
 · simp at h
 · match k, hk, hw with
   | 0, hk, hw =>
    simp at hk hw
    subst hk
    rw [ex_clo1 hw.inv_nil.2] at h
    exact afterEr_one ex_tick ex_n1 exT_1 h
   | k + 1, hk, _ => simp at hk
theorem ex_we3 {er : Int} : ¬ WatchEr exC 1 [0, -1] er := by
 rintro (h | ⟨_, h⟩ | ⟨k, r, x, hk, hw, h⟩)
 · exact ex_startEr1 h
 · simp at h
 · match k, hk, hw with
   | 0, hk, hw =>
    simp at hk hw
    subst hk
    rw [ex_clo1 hw.inv_nil.2] at h
    exact afterEr_one ex_zero ex_n2 exS_1 h
   | 1, hk, hw =>
    simp at hk hw
    subst hk
    rw [ex_w2 hw] at h
    exact afterEr_one ex_tick ex_n3 exU_1 h
   | k + 2, hk, _ => simp at hk
theorem ex_we2 {er : Int} : ¬ WatchEr exC 2 [-1] er := by
 rintro (h | ⟨_, h⟩ | ⟨k, r, x, hk, hw, h⟩)
 · exact ex_startEr2 h
 · simp at h
 · match k, hk, hw with
   | 0, hk, hw =>
    simp at hk hw
    subst hk
    rcases ex_clo2 hw.inv_nil.2 with rfl | rfl
    · exact afterEr_two (.inl ex_n4) h
    · exact afterEr_two (.inr ex_n5) h
   | k + 1, hk, _ => simp at hk
theorem ex_see {b : List KState} (hb : b = [ex0, exS] ∨ b = [exS, ex0]) : (∀ r, ¬ SeeOk exC 2 0 b r) ∧ ∀ er, SeeEr exC 2 0 b er → er = 13 := by
 have hn : exC.nexts 2 0 b = [] := by
  rcases hb with rfl | rfl
  · exact ex_n6
  · exact ex_n7
 have hk : exC.okBelief ⟨2, b⟩ = true := by rcases hb with rfl | rfl <;> kernel_rfl
 refine ⟨fun r h => h.2.2.1 hn, ?_⟩
 rintro er (⟨_, h⟩ | ⟨_, ⟨_, h⟩ | ⟨_, ⟨h, _⟩ | ⟨_, h⟩⟩⟩)
 · rw [hk] at h; cases h
 · exact absurd ex_zero h
 · exact h
 · rw [hn] at h
   exact absurd h (TooMany.not (S := []) (fun _ h => h) (fun s hs => by cases hs) (by decide))
end Go.Proofs.YtaielhafpmjkaaaGreatDoor
namespace Go.Proofs.YtaielhafpmjkaaaGreatDoor
open Go.RowKit Go.Shelf
def BAt (w : World) (A : Option Addr) (n c : Nat) (Ok : List KState → Prop) : Prop := ∃ r : List KState, r.length = n ∧ StatesAt w ⟨A, c⟩ r ∧ Ok r
theorem BAt.below {w w' : World} {A : Option Addr} {n c : Nat} {Ok : List KState → Prop} (h : BAt w A n c Ok) (hb : Below w.heap.size w w') : BAt w' A n c Ok := by
 obtain ⟨r, h1, h2, h3⟩ := h
 exact ⟨r, h1, h2.below hb, h3⟩
def BelIs (p : Int) (n : Nat) (Ok : List KState → Prop) (w : World) (e : Ending) (w' : World) : Prop :=
 ∃ (A : Option Addr) (c : Nat), e = .returned (.tuple #[.agg #[.int .i64 p, .slice A n c], .int .i64 0]) ∧ Below w.heap.size w w' ∧ BAt w' A n c Ok
theorem BelPost.is {p : Int} {n : Nat} {Ok : List KState → Prop} {Ok' : List KState → Prop} {Er : Int → Prop} {w : World} {e : Ending} {w' : World} (h : BelPost p Ok Er w e w') (h1 : ∀ r, Ok r → r.length = n ∧ Ok' r) (h2 : ∀ er, ¬ Er er) : BelIs p n Ok' w e w' := by
 obtain ⟨q, A, c, r, er, rfl, hb, ⟨rfl, rfl, hs, ho⟩ | ⟨_, _, _, _, _, h3⟩⟩ := h
 · obtain ⟨h4, h5⟩ := h1 r ho
   subst h4
   exact ⟨A, c, rfl, hb, r, rfl, hs.at, h5⟩
 · exact absurd h3 (h2 er)
def Is2 (a b : KState) (r : List KState) : Prop := r = [a, b] ∨ r = [b, a]
theorem is2_len {a b : KState} {r : List KState} (h : Is2 a b r) : r.length = 2 := by rcases h with rfl | rfl <;> rfl
theorem exStart1 (v : CV) (w : World) (hC : ConAt w v exC) (hT : Tab w) : Calls Tryz.prog 33 #[v.val exC, .int .i64 1] w (BelIs 1 1 (fun r => r = [ex0]) w) :=
 (mstart_any v exC 1 w hC hT).mono (fun _ _ h => h.is (fun r hr => by have := ex_clo1 hr.2; subst this; exact ⟨rfl, rfl⟩) (fun _ => ex_startEr1))
theorem exStart2 (v : CV) (w : World) (hC : ConAt w v exC) (hT : Tab w) : Calls Tryz.prog 33 #[v.val exC, .int .i64 2] w (BelIs 2 2 (Is2 ex0 exS) w) :=
 (mstart_any v exC 2 w hC hT).mono (fun _ _ h => h.is (fun _ hr => ⟨is2_len (ex_clo2 hr.2), ex_clo2 hr.2⟩) (fun _ => ex_startEr2))
theorem exWatch2 (v : CV) (A : Option Addr) (c : Nat) (w : World) (hC : ConAt w v exC) (hV : At w 1 A 1 c (ints [-1])) (hT : Tab w) : Calls Tryz.prog 18 #[v.val exC, .int .i64 2, .slice A 1 c] w (BelIs 2 2 (Is2 exT exU) w) :=
 (watch_any v exC 2 ⟨A, c⟩ [-1] w hC hV hT).mono (fun _ _ h => h.is (fun _ hr => ⟨is2_len (ex_w4 hr.2), ex_w4 hr.2⟩) (fun _ => ex_we2))
theorem exWatch1 (v : CV) (A : Option Addr) (c : Nat) (w : World) (hC : ConAt w v exC) (hV : At w 1 A 1 c (ints [-1])) (hT : Tab w) : Calls Tryz.prog 18 #[v.val exC, .int .i64 1, .slice A 1 c] w (BelIs 1 1 (fun r => r = [exT]) w) :=
 (watch_any v exC 1 ⟨A, c⟩ [-1] w hC hV hT).mono (fun _ _ h => h.is (fun r hr => by have := ex_w1 hr.2; subst this; exact ⟨rfl, rfl⟩) (fun _ => ex_we1))
theorem exWatch3 (v : CV) (A : Option Addr) (c : Nat) (w : World) (hC : ConAt w v exC) (hV : At w 1 A 2 c (ints [0, -1])) (hT : Tab w) : Calls Tryz.prog 18 #[v.val exC, .int .i64 1, .slice A 2 c] w (BelIs 1 1 (fun r => r = [exU]) w) :=
 (watch_any v exC 1 ⟨A, c⟩ [0, -1] w hC hV hT).mono (fun _ _ h => h.is (fun r hr => by have := ex_w3 hr.2; subst this; exact ⟨rfl, rfl⟩) (fun _ => ex_we3))
def SeeNone (w : World) (e : Ending) (w' : World) : Prop := e = .returned (.tuple #[.agg #[.int .i64 0, .slice none 0 0], .int .i64 13]) ∧ Below w.heap.size w w'
theorem exSee (v : CV) (A : Option Addr) (c : Nat) (w : World) (hC : ConAt w v exC) (hB : BAt w A 2 c (Is2 ex0 exS)) (hT : Tab w) : Calls Tryz.prog 17 #[v.val exC, .agg #[.int .i64 2, .slice A 2 c], .int .i64 0] w (SeeNone w) := by
 obtain ⟨r, h1, h2, h3⟩ := hB
 have h := see_any v exC 2 0 ⟨A, c⟩ r w hC h2 hT
 rw [h1] at h
 refine h.mono ?_
 rintro e w' ⟨q, A', c', r', er, rfl, hb, ⟨_, _, _, ho⟩ | ⟨_, rfl, rfl, rfl, rfl, he⟩⟩
 · exact absurd ho ((ex_see h3).1 r')
 · rw [(ex_see h3).2 er he]
   exact ⟨rfl, hb⟩
theorem exVerdict {Ok : List KState → Prop} {n : Nat} (v : CV) (p x val : Int) (A : Option Addr) (c : Nat) (w : World) (hC : ConAt w v exC) (hB : BAt w A n c Ok) (hv : ∀ r, Ok r → exC.verdict ⟨p, r⟩ x = val) : Calls Tryz.prog 13 #[v.val exC, .agg #[.int .i64 p, .slice A n c], .int .i64 x] w (RetB (.int .i64 val) w) := by
 obtain ⟨r, h1, h2, h3⟩ := hB
 have h := verdict_any v exC ⟨A, c⟩ ⟨p, r⟩ x w hC h2
 rw [hv r h3] at h
 simp only [h1] at h
 exact h
theorem exBlames {Ok : List KState → Prop} {n : Nat} (v : CV) (p x val : Int) (A : Option Addr) (c : Nat) (w : World) (hC : ConAt w v exC) (hB : BAt w A n c Ok) (hv : ∀ r, Ok r → exC.blames ⟨p, r⟩ x = val) : Calls Tryz.prog 15 #[v.val exC, .agg #[.int .i64 p, .slice A n c], .int .i64 x] w (RetB (.int .i64 val) w) := by
 obtain ⟨r, h1, h2, h3⟩ := hB
 have h := blames_any v exC ⟨A, c⟩ ⟨p, r⟩ x w hC h2
 rw [hv r h3] at h
 simp only [h1] at h
 exact h
theorem exV1 : ∀ r, Is2 exT exU r → exC.verdict ⟨2, r⟩ 0 = 0 := by rintro r (rfl | rfl) <;> kernel_rfl
theorem exB1 : ∀ r, Is2 exT exU r → exC.blames ⟨2, r⟩ 0 = 0 := by rintro r (rfl | rfl) <;> kernel_rfl
theorem exV2 : ∀ r, r = [exT] → exC.verdict ⟨1, r⟩ 0 = 3 := by rintro r rfl; kernel_rfl
theorem exB2 : ∀ r, r = [exT] → exC.blames ⟨1, r⟩ 0 = 3 := by rintro r rfl; kernel_rfl
theorem exV3 : ∀ r, r = [exU] → exC.verdict ⟨1, r⟩ 0 = 1 := by rintro r rfl; kernel_rfl
theorem exV4 : ∀ r, r = [ex0] → exC.verdict ⟨1, r⟩ 0 = 2 := by rintro r rfl; kernel_rfl
theorem exB3 : ∀ r, r = [exU] → exC.blames ⟨1, r⟩ 0 = 2 := by rintro r rfl; kernel_rfl
theorem exV5 : ∀ r, r = [ex0] → exC.verdict ⟨1, r⟩ 1 = 0 := by rintro r rfl; kernel_rfl
end Go.Proofs.YtaielhafpmjkaaaGreatDoor
