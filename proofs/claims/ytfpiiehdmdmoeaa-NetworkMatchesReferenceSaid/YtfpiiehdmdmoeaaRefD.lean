/-
  The reference's choice: of those that are left the first of the least time, again and again, is the copies by their times.
-/
import Derived.Test.YtfpiiehdmdmoeaaRefC
namespace Go.Proofs.Ytfpiiehdmdmoeaa

theorem ins_low {x b : Flight} (h : x.due ≤ b.due) (q : List Flight) : ins (x :: q) b 1 = x :: ins q b 1 := by
  unfold ins
  simp [h]
theorem fold_low {x : Flight} : ∀ (B q : List Flight), (∀ b ∈ B, x.due ≤ b.due) → B.foldl (fun q y => ins q y 1) (x :: q) = x :: B.foldl (fun q y => ins q y 1) q
  | [], _, _ => rfl
  | b :: B, q, h => by
    simp only [List.foldl_cons]
    rw [ins_low (h b (by simp)), fold_low B _ (fun c hc => h c (by simp [hc]))]
theorem mem_sortQ (cs : List Flight) (y : Flight) : y ∈ sortQ cs ↔ y ∈ cs := by
  have : ∀ (cs q : List Flight), y ∈ cs.foldl (fun q x => ins q x 1) q ↔ y ∈ q ∨ y ∈ cs := by
    intro cs
    induction cs with
    | nil => intro q; simp
    | cons a cs ih =>
      intro q
      rw [List.foldl_cons, ih, mem_ins1]
      simp only [List.mem_cons]
      constructor
      · rintro ((h | h) | h)
        · exact .inl h
        · exact .inr (.inl h)
        · exact .inr (.inr h)
      · rintro (h | h | h)
        · exact .inl (.inl h)
        · exact .inl (.inr h)
        · exact .inr h
  have := this cs []
  simpa [sortQ] using this
theorem sortQ_sel {A B : List Flight} {x : Flight} (hA : ∀ a ∈ A, x.due < a.due) (hB : ∀ b ∈ B, x.due ≤ b.due) : sortQ (A ++ x :: B) = x :: sortQ (A ++ B) := by
  have e1 : sortQ (A ++ x :: B) = B.foldl (fun q y => ins q y 1) (ins (sortQ A) x 1) := by simp [sortQ]
  have e2 : ins (sortQ A) x 1 = x :: sortQ A := by
    unfold ins
    have h1 : ∀ q : List Flight, (∀ a ∈ q, x.due < a.due) → q.takeWhile (fun f => decide (f.due ≤ x.due)) = [] ∧ q.dropWhile (fun f => decide (f.due ≤ x.due)) = q := by
      intro q hq
      cases q with
      | nil => exact ⟨rfl, rfl⟩
      | cons a q =>
        have := hq a (by simp)
        rw [List.takeWhile_cons, List.dropWhile_cons, if_neg (by simpa using this), if_neg (by simpa using this)]
        exact ⟨rfl, rfl⟩
    have := h1 (sortQ A) (fun a ha => hA a ((mem_sortQ _ _).1 ha))
    rw [this.1, this.2]
    rfl
  rw [e1, e2, fold_low B _ hB]
  simp [sortQ]

/-- The copies that are chosen from: those not done for which e holds. -/
def left (e : Flight → Bool) : List Flight → List Bool → List Flight
  | c :: cs, d :: ds => if !d && e c then c :: left e cs ds else left e cs ds
  | _, _ => []
theorem left_all (e : Flight → Bool) : ∀ cs : List Flight, left e cs (List.replicate cs.length false) = cs.filter e
  | [] => rfl
  | c :: cs => by
    simp only [List.length_cons, List.replicate_succ, left, List.filter_cons, left_all e cs]
    cases e c <;> simp
def elig (e : Flight → Bool) (cs : List Flight) (ds : List Bool) (j : Nat) : Prop := ds[j]? = some false ∧ ∃ c, cs[j]? = some c ∧ e c = true
theorem left_mem {e : Flight → Bool} : ∀ {cs : List Flight} {ds : List Bool} {c : Flight}, c ∈ left e cs ds → ∃ j, elig e cs ds j ∧ cs[j]? = some c
  | [], _, _, h => by simp [left] at h
  | c :: cs, [], _, h => by simp [left] at h
  | c :: cs, d :: ds, y, h => by
    unfold left at h
    split at h
    · rename_i hd
      simp only [Bool.and_eq_true, Bool.not_eq_true'] at hd
      rcases List.mem_cons.1 h with rfl | h
      · exact ⟨0, ⟨by simp [hd.1], _, rfl, hd.2⟩, rfl⟩
      · obtain ⟨j, h1, h2⟩ := left_mem h
        exact ⟨j + 1, by simpa [elig] using h1, by simpa using h2⟩
    · obtain ⟨j, h1, h2⟩ := left_mem h
      exact ⟨j + 1, by simpa [elig] using h1, by simpa using h2⟩
theorem left_none {e : Flight → Bool} {cs : List Flight} {ds : List Bool} (h : ∀ j, j < cs.length → ¬ elig e cs ds j) : left e cs ds = [] := by
  cases hl : left e cs ds with
  | nil => rfl
  | cons c r =>
    obtain ⟨j, h1, h2⟩ := left_mem (e := e) (cs := cs) (ds := ds) (c := c) (by rw [hl]; simp)
    obtain ⟨hj, _⟩ := List.getElem?_eq_some_iff.1 h2
    exact absurd h1 (h j hj)

/-- The one at b taken out: those ahead of it are due later, those behind it no sooner. -/
theorem left_split {e : Flight → Bool} : ∀ {cs : List Flight} {ds : List Bool} {b : Nat} {x : Flight}, ds[b]? = some false → cs[b]? = some x → e x = true → (∀ j c, j < b → elig e cs ds j → cs[j]? = some c → x.due < c.due) → (∀ j c, elig e cs ds j → cs[j]? = some c → x.due ≤ c.due) →
    ∃ A B, left e cs ds = A ++ x :: B ∧ left e cs (ds.set b true) = A ++ B ∧ (∀ a ∈ A, x.due < a.due) ∧ (∀ c ∈ B, x.due ≤ c.due)
  | [], _, _, _, _, h, _, _, _ => by simp at h
  | _ :: _, [], _, _, h, _, _, _, _ => by simp at h
  | c :: cs, d :: ds, 0, x, hd, hc, he, _, h2 => by
    simp at hd hc
    subst hd hc
    refine ⟨[], left e cs ds, by simp [left, he], by simp [left], (fun _ h => by cases h), fun y hy => ?_⟩
    obtain ⟨j, h3, h4⟩ := left_mem hy
    exact h2 (j + 1) y (by simpa [elig] using h3) (by simpa using h4)
  | c :: cs, d :: ds, b + 1, x, hd, hc, he, h1, h2 => by
    simp at hd hc
    obtain ⟨A, B, e1, e2, hA, hB⟩ := left_split (b := b) hd hc he (fun j y hj hy hy2 => h1 (j + 1) y (by omega) (by simpa [elig] using hy) (by simpa using hy2)) (fun j y hy hy2 => h2 (j + 1) y (by simpa [elig] using hy) (by simpa using hy2))
    simp only [List.set_cons_succ, left]
    by_cases hk : (!d && e c) = true
    · refine ⟨c :: A, B, by rw [if_pos hk, e1]; rfl, by rw [if_pos hk, e2]; rfl, fun a ha => ?_, hB⟩
      rcases List.mem_cons.1 ha with rfl | ha
      · simp only [Bool.and_eq_true, Bool.not_eq_true'] at hk
        exact h1 0 a (by omega) ⟨by simp [hk.1], _, rfl, hk.2⟩ rfl
      · exact hA a ha
    · exact ⟨A, B, by rw [if_neg hk, e1], by rw [if_neg hk, e2], hA, hB⟩
theorem left_pick {e : Flight → Bool} {cs : List Flight} {ds : List Bool} {b : Nat} {x : Flight} (hd : ds[b]? = some false) (hc : cs[b]? = some x) (he : e x = true) (h1 : ∀ j c, j < b → elig e cs ds j → cs[j]? = some c → x.due < c.due) (h2 : ∀ j c, elig e cs ds j → cs[j]? = some c → x.due ≤ c.due) :
    sortQ (left e cs ds) = x :: sortQ (left e cs (ds.set b true)) := by
  obtain ⟨A, B, e1, e2, hA, hB⟩ := left_split hd hc he h1 h2
  rw [e1, e2, sortQ_sel hA hB]
end Go.Proofs.Ytfpiiehdmdmoeaa
