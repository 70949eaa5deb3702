/-
  PlainC; Needs
-/
import Derived.Test.YtaielhafpmjkaaaGreatDoorQ18
namespace Go.Proofs.YtaielhafpmjkaaaGreatDoor
structure ActOk (C : KCon) (a : KAct) : Prop where
 role : a.role ≠ -1 → 0 ≤ a.role ∧ a.role < C.holders.length
 kind : a.kind = 1 ∨ a.kind = 2 ∨ a.kind = 3
 give : a.kind ≠ 1 → 0 ≤ a.give ∧ a.give < C.holders.length
 tgt : a.kind ≠ 1 → 0 ≤ a.tgt ∧ a.tgt < C.parties
 seen : a.kind = 1 → a.tgt = -1 ∨ (0 ≤ a.tgt ∧ a.tgt < C.holders.length)
theorem KCon.Ok.act {C : KCon} (h : C.Ok) {a : KAct} (ha : a ∈ C.acts) : ActOk C a := by
 have hc := h.acts a ha
 simp only [KCon.okAct, okActB] at hc
 cases qr : (C.role a.role) with
 | false =>
  simp only [qr, Bool.not_false, cond_true, Bool.and_eq_true, beq_iff_eq, Bool.or_eq_true] at hc
  obtain ⟨h1, h2, h3, h4, _⟩ := hc
  refine ⟨fun h => absurd h2 h, .inl h1, fun h => absurd h1 h, fun h => absurd h1 h, fun _ => ?_⟩
  rcases h4 with h4 | h4
  · exact .inl h4
  · simp only [KCon.role, Bool.and_eq_true, decide_eq_true_eq] at h4
    exact .inr h4
 | true =>
  have qr' := qr
  simp only [KCon.role, Bool.and_eq_true, decide_eq_true_eq] at qr'
  simp only [qr, Bool.not_true, cond_false] at hc
  cases q1 : (a.kind == 1) with
  | true =>
   have h1 : a.kind = 1 := by simpa using q1
   simp only [q1, cond_true] at hc
   refine ⟨fun _ => qr', .inl h1, fun h => absurd h1 h, fun h => absurd h1 h, fun _ => ?_⟩
   cases q2 : (!(a.give == 0) || (!(a.tgt == -1) && !(C.role a.tgt))) with
   | true => simp only [q2, cond_true] at hc; cases hc
   | false =>
    simp only [Bool.or_eq_false_iff, Bool.and_eq_false_iff, Bool.not_eq_false', beq_iff_eq] at q2
    rcases q2.2 with h4 | h4
    · exact .inl h4
    · simp only [KCon.role, Bool.and_eq_true, decide_eq_true_eq] at h4
      exact .inr h4
  | false =>
   have h1 : a.kind ≠ 1 := by simpa using q1
   simp only [q1, cond_false] at hc
   cases q2 : ((a.kind == 2) || (a.kind == 3)) with
   | false => simp only [q2, cond_false] at hc; cases hc
   | true =>
    simp only [q2, cond_true, Bool.and_eq_true, decide_eq_true_eq, KCon.role] at hc
    simp only [Bool.or_eq_true, beq_iff_eq] at q2
    exact ⟨fun _ => qr', .inr q2, fun _ => hc.1, fun _ => ⟨hc.2.1, hc.2.2.1⟩, fun h => absurd h h1⟩
structure StateOk (C : KCon) (s : KState) : Prop where
 con : C.valid = true
 day0 : 0 ≤ s.day
 day1 : s.day ≤ C.days
 lh : s.holders.length = C.holders.length
 lu : s.used.length = C.acts.length
 lm : s.marks.length = C.clauses.length
 held : ∀ p ∈ s.holders, 0 ≤ p ∧ p < C.parties
 used : ∀ (i : Nat) (a : KAct), s.used[i]? = some true → C.acts[i]? = some a → a.kind ≠ 1
 marks : ∀ (i : Nat) (m : KMark) (k : KClause), s.marks[i]? = some m → C.clauses[i]? = some k → MarkOk C k m
 still : ∀ (i : Nat) (m : KMark) (k : KClause), s.marks[i]? = some m → C.clauses[i]? = some k → readyK s.marks k m = false
theorem okState_iff (C : KCon) (s : KState) : C.okState s = true ↔ StateOk C s := by
 constructor
 · intro h
   simp only [KCon.okState, sv1, sHolders, sUsed, sMarks, Bool.and_eq_true, Bool.not_eq_true', decide_eq_false_iff_not, beq_iff_eq] at h
   obtain ⟨h1, ⟨h2, h3, h4, h5, h6⟩, h7, h8, h9⟩ := h
   refine ⟨h1, by omega, by omega, by omega, by omega, by omega, ?_, ?_, ?_, ?_⟩
   · intro p hp
     have h10 := List.all_eq_true.1 h7 p hp
     simp only [holdOk, Bool.and_eq_true, Bool.not_eq_true', decide_eq_false_iff_not] at h10
     omega
   · intro i a hu ha
     have h10 := all_range h8 (List.getElem?_eq_some_iff.1 hu).1
     rw [hu, ha] at h10
     simpa using h10
   · intro i m k hm hk
     have h10 := all_range h9 (List.getElem?_eq_some_iff.1 hm).1
     rw [hm, hk] at h10
     simp only [Bool.and_eq_true] at h10
     exact (okMark_iff _ _ _).1 h10.1
   · intro i m k hm hk
     have h10 := all_range h9 (List.getElem?_eq_some_iff.1 hm).1
     rw [hm, hk] at h10
     simp only [Bool.and_eq_true, Bool.not_eq_true'] at h10
     exact h10.2
 · intro h
   simp only [KCon.okState, sv1, sHolders, sUsed, sMarks, Bool.and_eq_true, Bool.not_eq_true', decide_eq_false_iff_not, beq_iff_eq]
   refine ⟨h.con, ⟨by have := h.day0; omega, by have := h.day1; omega, by have := h.lh; omega, by have := h.lu; omega, by have := h.lm; omega⟩, ?_, ?_, ?_⟩
   · apply List.all_eq_true.2
     intro p hp
     have := h.held p hp
     simp only [holdOk, Bool.and_eq_true, Bool.not_eq_true', decide_eq_false_iff_not]
     omega
   · apply List.all_eq_true.2
     intro i _
     cases hu : s.used[i]? with
     | none => rfl
     | some u =>
      cases ha : C.acts[i]? with
      | none => rfl
      | some a =>
       cases u with
       | false => simp
       | true =>
        have := h.used i a hu ha
        simpa using this
   · apply List.all_eq_true.2
     intro i _
     cases hm : s.marks[i]? with
     | none => rfl
     | some m =>
      cases hk : C.clauses[i]? with
      | none => rfl
      | some k =>
       simp only [Bool.and_eq_true, Bool.not_eq_true']
       exact ⟨(okMark_iff _ _ _).2 (h.marks i m k hm hk), h.still i m k hm hk⟩
def Beg (C : KCon) (hs : List Int) (j : Nat) (m m' : KMark) : Prop := m' = m ∨ (m.status = 0 ∧ ∃ k, C.clauses[j]? = some k ∧ k.waived = false ∧ m' = liveK hs k)
theorem Beg.trans {C : KCon} {hs : List Int} {j : Nat} {a b c : KMark} (h : Beg C hs j a b) (h' : Beg C hs j b c) : Beg C hs j a c := by
 rcases h with rfl | ⟨h0, k, hk, hw, rfl⟩
 · exact h'
 · rcases h' with rfl | ⟨h1, _⟩
   · exact .inr ⟨h0, k, hk, hw, rfl⟩
   · exact absurd h1 (by show (1 : Int) ≠ 0; decide)
def BegAll (C : KCon) (hs : List Int) (ms ms' : List KMark) : Prop := ms'.length = ms.length ∧ ∀ (j : Nat) (m' : KMark), ms'[j]? = some m' → ∃ m, ms[j]? = some m ∧ Beg C hs j m m'
theorem BegAll.refl (C : KCon) (hs : List Int) (ms : List KMark) : BegAll C hs ms ms := ⟨rfl, fun _ m' h => ⟨m', h, .inl rfl⟩⟩
theorem BegAll.trans {C : KCon} {hs : List Int} {a b c : List KMark} (h : BegAll C hs a b) (h' : BegAll C hs b c) : BegAll C hs a c :=
 ⟨h'.1.trans h.1, fun j m' hm => by
  obtain ⟨m1, h1, h2⟩ := h'.2 j m' hm
  obtain ⟨m2, h3, h4⟩ := h.2 j m1 h1
  exact ⟨m2, h3, h4.trans h2⟩⟩
theorem startAt_beg (C : KCon) (hs : List Int) (ms : List KMark) (i : Nat) : BegAll C hs ms (startAt C hs ms i) := by
 refine ⟨startAt_len C hs ms i, fun j m' hm => ?_⟩
 cases hf : firesAt C ms i with
 | false =>
  rw [(startAt_idle C hs ms i).2 hf] at hm
  exact ⟨m', hm, .inl rfl⟩
 | true =>
  have hf' := hf
  unfold firesAt at hf'
  unfold startAt at hm
  cases hk : C.clauses[i]? with
  | none => simp [hk] at hf'
  | some k =>
   cases hmi : ms[i]? with
   | none => simp [hk, hmi] at hf'
   | some m =>
    simp only [hk, hmi] at hf'
    simp only [hk, hf, cond_true] at hm
    by_cases hij : i = j
    · subst hij
      rw [set_self' hmi] at hm
      injection hm with hm
      simp only [readyK, Bool.and_eq_true, beq_iff_eq, Bool.not_eq_true'] at hf'
      exact ⟨m, hmi, .inr ⟨hf'.1, k, hk, hf'.2.1, hm.symm⟩⟩
    · rw [List.getElem?_set, if_neg hij] at hm
      exact ⟨m', hm, .inl rfl⟩
theorem startTo_beg (C : KCon) (hs : List Int) (ms : List KMark) : ∀ n, BegAll C hs ms (startTo C hs ms n)
 | 0 => BegAll.refl _ _ _
 | n + 1 => (startTo_beg C hs ms n).trans (startAt_beg C hs _ n)
theorem startAll_beg (C : KCon) (hs : List Int) : ∀ (f : Nat) (ms : List KMark), BegAll C hs ms (startAll C hs f ms)
 | 0, ms => BegAll.refl _ _ _
 | f + 1, ms => by
  rw [startAll]
  cases firedTo C hs ms C.clauses.length with
  | false => exact BegAll.refl _ _ _
  | true => exact (startTo_beg C hs ms _).trans (startAll_beg C hs f _)
theorem begin_beg (C : KCon) (hs : List Int) (ms : List KMark) : BegAll C hs ms (C.begin hs ms) := startAll_beg C hs _ ms
theorem startAll_rest (C : KCon) (hs : List Int) : ∀ (f : Nat) (ms : List KMark), idle ms < f → firedTo C hs (startAll C hs f ms) C.clauses.length = false
 | 0, _, h => by omega
 | f + 1, ms, h => by
  rw [startAll]
  cases hf : firedTo C hs ms C.clauses.length with
  | false => exact hf
  | true =>
   have := (startTo_idle C hs ms C.clauses.length).1 hf
   exact startAll_rest C hs f _ (by omega)
theorem fired_none {C : KCon} {hs : List Int} {ms : List KMark} : ∀ {n : Nat}, firedTo C hs ms n = false → ∀ i, i < n → firesAt C ms i = false
 | 0, _, i, hi => by omega
 | n + 1, h, i, hi => by
  rw [firedTo, Bool.or_eq_false_iff] at h
  by_cases hin : i = n
  · subst hin
    have h2 := (startTo_idle C hs ms i).2 h.1
    rw [h2] at h
    exact h.2
  · exact fired_none h.1 i (by omega)
theorem none_fired {C : KCon} {hs : List Int} {ms : List KMark} : ∀ {n : Nat}, (∀ i, i < n → firesAt C ms i = false) → firedTo C hs ms n = false
 | 0, _ => rfl
 | n + 1, h => by
  have h1 := none_fired (hs := hs) (n := n) (fun i hi => h i (by omega))
  rw [firedTo, h1, (startTo_idle C hs ms n).2 h1]
  exact h n (by omega)
theorem begin_none (C : KCon) (hs : List Int) (ms : List KMark) (i : Nat) (hi : i < C.clauses.length) : firesAt C (C.begin hs ms) i = false := fired_none (startAll_rest C hs _ ms (by omega)) i hi
theorem holderAt_mem {hs : List Int} {r : Int} (h0 : 0 ≤ r) (h1 : r < hs.length) : holderAt hs r ∈ hs := by
 unfold holderAt
 have : r.toNat < hs.length := by omega
 rw [List.getElem?_eq_getElem this]
 exact List.getElem_mem this
theorem liveK_ok {C : KCon} {hs : List Int} {i : Nat} {k : KClause} (hk : ClauseOk C i k) (hw : k.waived = false) (hl : hs.length = C.holders.length) (hh : ∀ p ∈ hs, 0 ≤ p ∧ p < C.parties) : MarkOk C k (liveK hs k) := by
 refine .inr (.inl ⟨.inl ⟨rfl, Int.le_refl _⟩, hw, hk.after1, (fun h => by cases h), fun h => absurd rfl h, fun h => ?_, fun h => ?_⟩)
 · simp [liveK, bearerOf, h]
 · have h4 : (k.kind == 4) = false := by simpa using h
   have := hk.role h
   have h5 := hh _ (holderAt_mem (hs := hs) this.1 (by omega))
   simp only [liveK, bearerOf, h4, cond_false]
   exact h5
theorem begin_ok {C : KCon} {hs : List Int} {ms : List KMark} (hC : C.Ok) (hl : hs.length = C.holders.length) (hh : ∀ p ∈ hs, 0 ≤ p ∧ p < C.parties) (hm : ∀ (i : Nat) (m : KMark) (k : KClause), ms[i]? = some m → C.clauses[i]? = some k → MarkOk C k m) :
 (∀ (i : Nat) (m : KMark) (k : KClause), (C.begin hs ms)[i]? = some m → C.clauses[i]? = some k → MarkOk C k m) ∧ (∀ (i : Nat) (m : KMark) (k : KClause), (C.begin hs ms)[i]? = some m → C.clauses[i]? = some k → readyK (C.begin hs ms) k m = false) := by
 refine ⟨fun i m k h hk => ?_, fun i m k h hk => ?_⟩
 · obtain ⟨m0, h0, hb⟩ := (begin_beg C hs ms).2 i m h
   rcases hb with rfl | ⟨_, k', hk', hw, rfl⟩
   · exact hm i _ k h0 hk
   · rw [hk] at hk'
     injection hk' with hk'
     subst hk'
     exact liveK_ok (hC.clause hk) hw hl hh
 · have h1 := begin_none C hs ms i (List.getElem?_eq_some_iff.1 hk).1
   unfold firesAt at h1
   rw [hk, h] at h1
   exact h1
theorem begin_len (C : KCon) (hs : List Int) (ms : List KMark) : (C.begin hs ms).length = ms.length := (begin_beg C hs ms).1
theorem begin_kept {C : KCon} {hs : List Int} {ms : List KMark} {j : Nat} {m : KMark} (h : ms[j]? = some m) (h0 : m.status ≠ 0) : (C.begin hs ms)[j]? = some m := by
 have hj : j < (C.begin hs ms).length := by rw [begin_len]; exact (List.getElem?_eq_some_iff.1 h).1
 obtain ⟨m', hm'⟩ : ∃ m', (C.begin hs ms)[j]? = some m' := ⟨_, List.getElem?_eq_getElem hj⟩
 obtain ⟨m0, h1, hb⟩ := (begin_beg C hs ms).2 j m' hm'
 rw [h] at h1
 injection h1 with h1
 subst h1
 rcases hb with rfl | ⟨h2, _⟩
 · exact hm'
 · exact absurd h2 h0
theorem map_ok {C : KCon} {ms ms' : List KMark} {f : Nat → KMark → KMark} (hg : ∀ j : Nat, ms'[j]? = (ms[j]?).map (fun m => cond m.runs (f j m) m)) (hm : ∀ (i : Nat) (m : KMark) (k : KClause), ms[i]? = some m → C.clauses[i]? = some k → MarkOk C k m)
 (hf : ∀ (i : Nat) (m : KMark) (k : KClause), C.clauses[i]? = some k → MarkOk C k m → m.runs = true → MarkOk C k (f i m)) : ∀ (i : Nat) (m : KMark) (k : KClause), ms'[i]? = some m → C.clauses[i]? = some k → MarkOk C k m := by
 intro i m k h hk
 rw [hg] at h
 cases hm0 : ms[i]? with
 | none => rw [hm0] at h; cases h
 | some m0 =>
  rw [hm0] at h
  simp only [Option.map_some, Option.some.injEq] at h
  have h1 := hm i m0 k hm0 hk
  cases hr : m0.runs with
  | false =>
   rw [hr] at h
   subst h
   exact h1
  | true =>
   rw [hr] at h
   subst h
   exact hf i m0 k hk h1 hr
theorem paused_ok {C : KCon} {ms : List KMark} {act : Int} (h0 : 0 ≤ act) (hm : ∀ (i : Nat) (m : KMark) (k : KClause), ms[i]? = some m → C.clauses[i]? = some k → MarkOk C k m) :
 ∀ (i : Nat) (m : KMark) (k : KClause), (C.paused act ms)[i]? = some m → C.clauses[i]? = some k → MarkOk C k m :=
 map_ok (paused_get C act ms) hm (fun i m k hk h hr => by
  unfold pauseOne
  rw [hk]
  dsimp only
  cases q1 : (act == k.pause) with
  | true =>
   have e1 : act = k.pause := by simpa using q1
   exact h.paused1 hr (by omega) true
  | false =>
   cases q2 : (act == k.resume) with
   | true => exact h.resumed hr
   | false => exact h)
theorem acted_ok {C : KCon} (hC : C.Ok) {ms : List KMark} {act who : Int} (hm : ∀ (i : Nat) (m : KMark) (k : KClause), ms[i]? = some m → C.clauses[i]? = some k → MarkOk C k m) :
 ∀ (i : Nat) (m : KMark) (k : KClause), (C.acted act who ms)[i]? = some m → C.clauses[i]? = some k → MarkOk C k m :=
 map_ok (acted_get C act who ms) hm (fun i m k hk h hr => by
  unfold actOne
  rw [hk]
  cases q1 : ((k.act == act) && ((k.kind == 4) || (m.bearer == who))) with
  | true => simpa only [q1, cond_true] using h.hit (hC.clause hk) hr hC.parties
  | false => simpa only [q1, cond_false] using h)
theorem ticked_ok {C : KCon} (hC : C.Ok) {ms : List KMark} {free : Bool} (hm : ∀ (i : Nat) (m : KMark) (k : KClause), ms[i]? = some m → C.clauses[i]? = some k → MarkOk C k m) :
 ∀ (i : Nat) (m : KMark) (k : KClause), (C.ticked free ms)[i]? = some m → C.clauses[i]? = some k → MarkOk C k m :=
 map_ok (ticked_get C free ms) hm (fun i m k hk h hr => by
  unfold tickOne
  rw [hk]
  cases q1 : (m.paused || (k.business && free)) with
  | true => simpa only [q1, cond_true] using h
  | false => simpa only [q1, cond_false] using h.aged (hC.clause hk) hr hC.parties)
theorem shifted_ok {C : KCon} {ms : List KMark} {give tgt : Int} (h0 : 0 ≤ tgt) (h1 : tgt < C.parties) (hm : ∀ (i : Nat) (m : KMark) (k : KClause), ms[i]? = some m → C.clauses[i]? = some k → MarkOk C k m) :
 ∀ (i : Nat) (m : KMark) (k : KClause), ((runsTo ms ms.length).foldl (fun ms j => shiftMark C give tgt j ms) ms)[i]? = some m → C.clauses[i]? = some k → MarkOk C k m :=
 map_ok (shifted_get C give tgt ms) hm (fun i m k hk h hr => by
  unfold shiftOne
  rw [hk]
  dsimp only
  cases q1 : ((k.kind != 4) && (k.role == give)) with
  | true =>
   simp only [Bool.and_eq_true, bne_iff_ne] at q1
   exact h.borne hr q1.1 h0 h1
  | false => exact h)
theorem tick_ok {C : KCon} {s : KState} (h : StateOk C s) (hd : s.day < C.days) : StateOk C (C.tick s) := by
 have hC := KCon.ok h.con
 obtain ⟨b1, b2⟩ := begin_ok hC h.lh h.held (ticked_ok hC (free := C.off.contains s.day) h.marks)
 exact ⟨h.con, by show 0 ≤ s.day + 1; have := h.day0; omega, by show s.day + 1 ≤ C.days; omega, h.lh, h.lu, by show (C.begin _ _).length = _; rw [begin_len, ticked_len]; exact h.lm, h.held, h.used, b1, b2⟩
theorem mem_set {α : Type} {l : List α} {i : Nat} {x y : α} (h : y ∈ l.set i x) : y = x ∨ y ∈ l := by
 rcases List.mem_or_eq_of_mem_set h with h | h
 · exact .inr h
 · exact .inl h
theorem shift_ok {C : KCon} {s : KState} {i : Nat} {a : KAct} (hA : ActOk C a) (ha : C.acts[i]? = some a) (hk : a.kind ≠ 1) (h1 : s.holders.length = C.holders.length) (h2 : s.used.length = C.acts.length) (h3 : s.marks.length = C.clauses.length) (h4 : ∀ p ∈ s.holders, 0 ≤ p ∧ p < C.parties)
 (h5 : ∀ (i : Nat) (a : KAct), s.used[i]? = some true → C.acts[i]? = some a → a.kind ≠ 1) (h6 : ∀ (i : Nat) (m : KMark) (k : KClause), s.marks[i]? = some m → C.clauses[i]? = some k → MarkOk C k m) :
 (C.shift i a s).holders.length = C.holders.length ∧ (C.shift i a s).used.length = C.acts.length ∧ (C.shift i a s).marks.length = C.clauses.length ∧ (∀ p ∈ (C.shift i a s).holders, 0 ≤ p ∧ p < C.parties) ∧ (∀ (j : Nat) (a' : KAct), (C.shift i a s).used[j]? = some true → C.acts[j]? = some a' → a'.kind ≠ 1) ∧
  (∀ (j : Nat) (m : KMark) (k : KClause), (C.shift i a s).marks[j]? = some m → C.clauses[j]? = some k → MarkOk C k m) := by
 refine ⟨by simp [KCon.shift, h1], by simp [KCon.shift, h2], ?_, ?_, ?_, ?_⟩
 · simp only [KCon.shift]
   cases (a.kind != 3) with
   | true => exact h3
   | false => simp only [cond_false]; rw [foldl_len _ (fun i ms => shiftMark_len C _ _ i ms)]; exact h3
 · intro p hp
   simp only [KCon.shift] at hp
   rcases mem_set hp with rfl | hp
   · exact hA.tgt hk
   · exact h4 p hp
 · intro j a' hu ha'
   simp only [KCon.shift] at hu
   by_cases hij : i = j
   · subst hij
     rw [ha] at ha'
     injection ha' with ha'
     subst ha'
     exact hk
   · rw [List.getElem?_set, if_neg hij] at hu
     exact h5 j a' hu ha'
 · simp only [KCon.shift]
   cases (a.kind != 3) with
   | true => exact h6
   | false => exact shifted_ok (hA.tgt hk).1 (hA.tgt hk).2 h6
theorem act_ok {C : KCon} {s : KState} (h : StateOk C s) {i : Nat} {a : KAct} (ha : C.acts[i]? = some a) : StateOk C (C.act i a s) := by
 have hC := KCon.ok h.con
 have hA := hC.act (List.mem_of_getElem? ha)
 unfold KCon.act
 cases q : ((a.kind != 1) && s.used.getD i false) with
 | true => exact h
 | false =>
  simp only [cond_false]
  have hm := acted_ok hC (who := doerOf s.holders a) (act := i) (paused_ok (act := i) (by omega) h.marks)
  have hl : (C.acted i (doerOf s.holders a) (C.paused i s.marks)).length = C.clauses.length := by rw [acted_len, paused_len]; exact h.lm
  cases q1 : (a.kind != 1) with
  | false =>
   simp only [cond_false]
   obtain ⟨b1, b2⟩ := begin_ok hC h.lh h.held hm
   exact ⟨h.con, h.day0, h.day1, h.lh, h.lu, by show (C.begin _ _).length = _; rw [begin_len]; exact hl, h.held, h.used, b1, b2⟩
  | true =>
   simp only [cond_true]
   have hk1 : a.kind ≠ 1 := by simpa using q1
   obtain ⟨s1, s2, s3, s4, s5, s6⟩ := shift_ok (s := ⟨s.day, s.holders, s.used, C.acted i (doerOf s.holders a) (C.paused i s.marks)⟩) hA ha hk1 h.lh h.lu hl h.held h.used hm
   obtain ⟨b1, b2⟩ := begin_ok hC s1 s4 s6
   exact ⟨h.con, h.day0, h.day1, s1, s2, by show (C.begin _ _).length = _; rw [begin_len]; exact s3, s4, s5, b1, b2⟩
def firstMark (k : KClause) : KMark := ⟨cond k.waived 5 0, 0, 0, -1, false⟩
def KCon.first (C : KCon) : KState := ⟨0, C.holders, List.replicate C.acts.length false, C.begin C.holders (C.clauses.map firstMark)⟩
theorem first_ok {C : KCon} (h : C.valid = true) : StateOk C C.first := by
 have hC := KCon.ok h
 obtain ⟨b1, b2⟩ := begin_ok (ms := C.clauses.map firstMark) hC rfl hC.held (fun i m k hm hk => by
  rw [List.getElem?_map, hk] at hm
  simp only [Option.map_some, Option.some.injEq] at hm
  subst hm
  have hp := hC.parties
  cases hw : k.waived with
  | true => exact .inr (.inr ⟨.inr (.inr (by simp [firstMark, hw])), rfl, by simp [firstMark], by simp [firstMark], by simp [firstMark], by simp [firstMark]; omega, rfl⟩)
  | false => exact .inl ⟨by simp [firstMark, hw], hw, rfl, rfl, rfl, rfl⟩)
 refine ⟨h, Int.le_refl _, by show 0 ≤ C.days; have := hC.days; omega, rfl, by simp [KCon.first], by simp [KCon.first, begin_len], hC.held, ?_, b1, b2⟩
 intro i a hu
 simp only [KCon.first] at hu
 have := List.mem_of_getElem? hu
 simp at this
theorem map_kept {ms ms' : List KMark} {f : Nat → KMark → KMark} (hg : ∀ j : Nat, ms'[j]? = (ms[j]?).map (fun m => cond m.runs (f j m) m)) {j : Nat} {m : KMark} (h : ms[j]? = some m) (hr : m.runs = false) : ms'[j]? = some m := by
 rw [hg, h, Option.map_some, hr]
 rfl
theorem ended_not_runs {m : KMark} (h : m.status = 3 ∨ m.status = 4 ∨ m.status = 5) : m.runs = false := by
 cases hr : m.runs with
 | false => rfl
 | true => rw [runs_iff] at hr; omega
theorem tick_final {C : KCon} {s : KState} {j : Nat} {m : KMark} (h : s.marks[j]? = some m) (he : m.status = 3 ∨ m.status = 4 ∨ m.status = 5) : (C.tick s).marks[j]? = some m :=
 begin_kept (map_kept (ticked_get C _ s.marks) h (ended_not_runs he)) (by omega)
theorem act_final {C : KCon} {s : KState} {i : Nat} {a : KAct} {j : Nat} {m : KMark} (h : s.marks[j]? = some m) (he : m.status = 3 ∨ m.status = 4 ∨ m.status = 5) : (C.act i a s).marks[j]? = some m := by
 have hr := ended_not_runs he
 have h0 : m.status ≠ 0 := by omega
 unfold KCon.act
 cases q : ((a.kind != 1) && s.used.getD i false) with
 | true => exact h
 | false =>
  simp only [cond_false]
  have h1 := map_kept (acted_get C i (doerOf s.holders a) (C.paused i s.marks)) (map_kept (paused_get C i s.marks) h hr) hr
  cases (a.kind != 1) with
  | false => exact begin_kept h1 h0
  | true =>
   refine begin_kept ?_ h0
   simp only [cond_true, KCon.shift]
   cases (a.kind != 3) with
   | true => exact h1
   | false => exact map_kept (shifted_get C _ _ _) h1 hr
theorem begin_same {C : KCon} {hs : List Int} {ms : List KMark} (h : ∀ (i : Nat) (m : KMark) (k : KClause), ms[i]? = some m → C.clauses[i]? = some k → readyK ms k m = false) : C.begin hs ms = ms := by
 apply begin_still
 apply none_fired
 intro i hi
 unfold firesAt
 cases hk : C.clauses[i]? with
 | none => rfl
 | some k =>
  cases hm : ms[i]? with
  | none => rfl
  | some m => exact h i m k hm hk
theorem map_same {ms ms' : List KMark} {f : Nat → KMark → KMark} (hg : ∀ j : Nat, ms'[j]? = (ms[j]?).map (fun m => cond m.runs (f j m) m)) (hf : ∀ (j : Nat) (m : KMark), ms[j]? = some m → m.runs = true → f j m = m) : ms' = ms := by
 apply List.ext_getElem?
 intro j
 rw [hg]
 cases hm : ms[j]? with
 | none => rfl
 | some m =>
  simp only [Option.map_some, Option.some.injEq]
  cases hr : m.runs with
  | false => rfl
  | true => exact hf j m hm hr
theorem act_same {C : KCon} {s : KState} (h : StateOk C s) {i : Nat} {a : KAct} (hk1 : a.kind = 1)
 (hn : ∀ (j : Nat) (m : KMark) (k : KClause), s.marks[j]? = some m → C.clauses[j]? = some k → m.runs = true → k.act ≠ i ∧ k.pause ≠ i ∧ k.resume ≠ i) : C.act i a s = s := by
 have h1 : C.paused i s.marks = s.marks := map_same (paused_get C i s.marks) (fun j m hm hr => by
  unfold pauseOne
  cases hk : C.clauses[j]? with
  | none => rfl
  | some k =>
   obtain ⟨_, n2, n3⟩ := hn j m k hm hk hr
   have e2 : ((i : Int) == k.pause) = false := by simpa using fun e => n2 e.symm
   have e3 : ((i : Int) == k.resume) = false := by simpa using fun e => n3 e.symm
   simp only [e2, e3, cond_false])
 have h2 : C.acted i (doerOf s.holders a) s.marks = s.marks := map_same (acted_get C i _ s.marks) (fun j m hm hr => by
  unfold actOne
  cases hk : C.clauses[j]? with
  | none => rfl
  | some k =>
   obtain ⟨n1, _, _⟩ := hn j m k hm hk hr
   have e1 : (k.act == (i : Int)) = false := by simpa using n1
   simp only [e1, Bool.false_and, cond_false])
 have h3 : C.begin s.holders s.marks = s.marks := begin_same h.still
 have q : (a.kind != 1) = false := by simpa using hk1
 unfold KCon.act
 simp only [q, Bool.false_and, cond_false, h1, h2, h3]
end Go.Proofs.YtaielhafpmjkaaaGreatDoor
namespace Go.Proofs.YtaielhafpmjkaaaGreatDoor
theorem offOk_gt {days : Int} : ∀ {l : List Int} {last : Int}, offOk days last l = true → ∀ d ∈ l, last < d
 | [], _, _, _, h => by cases h
 | x :: l, last, h, d, hd => by
  simp only [offOk, Bool.and_eq_true, Bool.not_eq_true', decide_eq_false_iff_not] at h
  rcases List.mem_cons.1 hd with rfl | hd
  · omega
  · have := offOk_gt h.2.2 d hd; omega
theorem offOk_sorted {days : Int} : ∀ {l : List Int} {last : Int}, offOk days last l = true → l.Pairwise (· ≤ ·)
 | [], _, _ => List.Pairwise.nil
 | x :: l, last, h => by
  simp only [offOk, Bool.and_eq_true, Bool.not_eq_true', decide_eq_false_iff_not] at h
  exact List.Pairwise.cons (fun d hd => by have := offOk_gt h.2.2 d hd; omega) (offOk_sorted h.2.2)
theorem offOk_len {days : Int} : ∀ {l : List Int} {last : Int}, offOk days last l = true → l = [] ∨ (l.length : Int) ≤ days - last - 1
 | [], _, _ => .inl rfl
 | x :: l, last, h => by
  simp only [offOk, Bool.and_eq_true, Bool.not_eq_true', decide_eq_false_iff_not] at h
  right
  rcases offOk_len h.2.2 with rfl | h2
  · simp; omega
  · simp only [List.length_cons]; omega
structure Needs (C : KCon) (s : KState) : Prop where
 hin : ∀ k ∈ C.clauses, ∀ c ∈ k.start, 0 ≤ c.clause ∧ c.clause < C.clauses.length
 hro : ∀ k ∈ C.clauses, k.kind ≠ 4 → 0 ≤ k.role ∧ k.role < s.holders.length
 hki : ∀ k ∈ C.clauses, 1 ≤ k.kind ∧ k.kind ≤ 4
 hof : C.off.Pairwise (· ≤ ·)
 hol : C.off.length < 4611686018427387904
 hd0 : 0 ≤ s.day
 hd1 : s.day ≤ 1000000
 hle : ∀ m ∈ s.marks, m.runs = true → 1 ≤ m.left ∧ m.left ≤ 1000000
 hgo : ∀ m ∈ s.marks, m.runs = true → 0 ≤ m.got ∧ m.got ≤ 1000000
 lh : s.holders.length ≤ 12
 lu : s.used.length ≤ 60
 lm : s.marks.length ≤ 400
theorem StateOk.needs {C : KCon} {s : KState} (h : StateOk C s) : Needs C s := by
 have hC := KCon.ok h.con
 have hcl : ∀ k ∈ C.clauses, ∃ i, ClauseOk C i k := fun k hk => by
  obtain ⟨i, hi⟩ := List.mem_iff_getElem?.1 hk
  exact ⟨i, hC.clause hi⟩
 have hmk : ∀ m ∈ s.marks, ∃ i k, ClauseOk C i k ∧ MarkOk C k m := fun m hm => by
  obtain ⟨i, hi⟩ := List.mem_iff_getElem?.1 hm
  have hil : i < C.clauses.length := by rw [← h.lm]; exact (List.getElem?_eq_some_iff.1 hi).1
  exact ⟨i, _, hC.clause (List.getElem?_eq_getElem hil), h.marks i m _ hi (List.getElem?_eq_getElem hil)⟩
 refine ⟨?_, ?_, ?_, offOk_sorted hC.off, ?_, h.day0, ?_, ?_, ?_, ?_, ?_, ?_⟩
 · intro k hk c hc
   obtain ⟨i, hi⟩ := hcl k hk
   have := hi.start c hc
   exact ⟨this.1, this.2.1⟩
 · intro k hk h4
   obtain ⟨i, hi⟩ := hcl k hk
   have := hi.role h4
   have := h.lh
   omega
 · intro k hk
   obtain ⟨i, hi⟩ := hcl k hk
   exact ⟨hi.kind1, hi.kind4⟩
 · have := hC.days2
   rcases offOk_len hC.off with h1 | h1
   · rw [h1]; decide
   · omega
 · have := h.day1; have := hC.days2; omega
 · intro m hm hr
   obtain ⟨i, k, hk, hmo⟩ := hmk m hm
   have a1 := hk.after2
   have a2 := hk.grace1
   rw [runs_iff] at hr
   rcases hmo with ⟨h0, _⟩ | ⟨h1, _, h2, _⟩ | ⟨h0, _⟩ <;> omega
 · intro m hm hr
   obtain ⟨i, k, hk, hmo⟩ := hmk m hm
   have := hmo.got hk
   omega
 · have := h.lh; have := hC.nroles; omega
 · have := h.lu; have := hC.nacts; omega
 · have := h.lm; have := hC.nclauses; omega
end Go.Proofs.YtaielhafpmjkaaaGreatDoor
