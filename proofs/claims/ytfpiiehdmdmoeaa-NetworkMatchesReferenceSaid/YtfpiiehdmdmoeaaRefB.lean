/-
  The copies by their times: what has arrived, what is on its way.
-/
import Derived.Test.YtfpiiehdmdmoeaaRefA
namespace Go.Proofs.Ytfpiiehdmdmoeaa

theorem sorted_split {S : List Flight} (h : sorted S) (t : Int) : S.takeWhile (fun f => decide (f.due ≤ t)) = S.filter (fun f => decide (f.due ≤ t)) ∧ S.dropWhile (fun f => decide (f.due ≤ t)) = S.filter (fun f => !decide (f.due ≤ t)) := by
  induction S with
  | nil => exact ⟨rfl, rfl⟩
  | cons a S ih =>
    have hs := List.pairwise_cons.1 h
    by_cases ha : a.due ≤ t
    · have := ih hs.2
      simp [ha, this.1, this.2]
    · have h1 : S.filter (fun f => decide (f.due ≤ t)) = [] := by
        rw [List.filter_eq_nil_iff]
        intro x hx
        have := hs.1 x hx
        simp
        omega
      have h2 : S.filter (fun f => !decide (f.due ≤ t)) = S := by
        rw [List.filter_eq_self]
        intro x hx
        have := hs.1 x hx
        simp
        omega
      rw [List.takeWhile_cons, List.dropWhile_cons, List.filter_cons, List.filter_cons, if_neg (by simpa using ha), if_neg (by simpa using ha), if_neg (by simpa using ha), if_pos (by simpa using ha), h1, h2]
      exact ⟨rfl, rfl⟩
theorem sorted_filter1 {S : List Flight} (h : sorted S) (p : Flight → Bool) : sorted (S.filter p) := List.Pairwise.filter p h
theorem ins_filter {S : List Flight} (h : sorted S) (x : Flight) : ins S x 1 = S.filter (fun f => decide (f.due ≤ x.due)) ++ [x] ++ S.filter (fun f => !decide (f.due ≤ x.due)) := by
  unfold ins
  rw [(sorted_split h x.due).1, (sorted_split h x.due).2]
  rfl
theorem sorted_ins1 {S : List Flight} (h : sorted S) (x : Flight) : sorted (ins S x 1) := by
  rw [ins_filter h]
  unfold sorted
  rw [List.pairwise_append, List.pairwise_append]
  refine ⟨⟨sorted_filter1 h _, List.pairwise_singleton _ _, fun a ha b hb => ?_⟩, sorted_filter1 h _, fun a ha b hb => ?_⟩
  · simp at ha hb
    subst hb
    exact ha.2
  · simp at ha hb
    rcases ha with ha | ha
    · omega
    · subst ha; omega
theorem sorted_sortQ (cs : List Flight) : sorted (sortQ cs) := by
  have : ∀ (cs q : List Flight), sorted q → sorted (cs.foldl (fun q x => ins q x 1) q) := by
    intro cs
    induction cs with
    | nil => intro q h; exact h
    | cons a cs ih => intro q h; exact ih _ (sorted_ins1 h a)
  exact this cs [] List.Pairwise.nil

/-- A part of the copies by a bound on their times: sorted is the part of the sorted. -/
theorem sortQ_due (t : Int) (cs : List Flight) : ∀ q : List Flight, sorted q → (cs.foldl (fun q x => ins q x 1) q).filter (fun f => decide (f.due ≤ t)) = (cs.filter (fun f => decide (f.due ≤ t))).foldl (fun q x => ins q x 1) (q.filter (fun f => decide (f.due ≤ t))) ∧
    (cs.foldl (fun q x => ins q x 1) q).filter (fun f => !decide (f.due ≤ t)) = (cs.filter (fun f => !decide (f.due ≤ t))).foldl (fun q x => ins q x 1) (q.filter (fun f => !decide (f.due ≤ t))) := by
  induction cs with
  | nil => intro q _; exact ⟨rfl, rfl⟩
  | cons a cs ih =>
    intro q hq
    have h := ih (ins q a 1) (sorted_ins1 hq a)
    simp only [List.foldl_cons]
    rw [h.1, h.2]
    by_cases ha : a.due ≤ t
    · have e1 : (ins q a 1).filter (fun f => decide (f.due ≤ t)) = ins (q.filter (fun f => decide (f.due ≤ t))) a 1 := by
        rw [ins_filter hq, ins_filter (sorted_filter1 hq _)]
        simp only [List.filter_append, List.filter_filter]
        congr 1
        · congr 1
          · apply List.filter_congr; intro x _; exact Bool.and_comm _ _
          · simp [ha]
        · apply List.filter_congr; intro x _; exact Bool.and_comm _ _
      have e2 : (ins q a 1).filter (fun f => !decide (f.due ≤ t)) = q.filter (fun f => !decide (f.due ≤ t)) := by
        rw [ins_filter hq]
        simp only [List.filter_append, List.filter_filter]
        have x1 : q.filter (fun f => !decide (f.due ≤ t) && decide (f.due ≤ a.due)) = [] := by
          rw [List.filter_eq_nil_iff]; intro x _; simp; omega
        have x2 : [a].filter (fun f => !decide (f.due ≤ t)) = [] := by simp [ha]
        rw [x1, x2]
        simp only [List.nil_append]
        apply List.filter_congr
        intro x _
        by_cases hx : x.due ≤ t
        · simp [hx]
        · have : ¬ x.due ≤ a.due := by omega
          simp [hx, this]
      rw [e1, e2]
      simp [ha]
    · have e1 : (ins q a 1).filter (fun f => !decide (f.due ≤ t)) = ins (q.filter (fun f => !decide (f.due ≤ t))) a 1 := by
        rw [ins_filter hq, ins_filter (sorted_filter1 hq _)]
        simp only [List.filter_append, List.filter_filter]
        congr 1
        · congr 1
          · apply List.filter_congr; intro x _; exact Bool.and_comm _ _
          · simp [ha]
        · apply List.filter_congr; intro x _; exact Bool.and_comm _ _
      have e2 : (ins q a 1).filter (fun f => decide (f.due ≤ t)) = q.filter (fun f => decide (f.due ≤ t)) := by
        rw [ins_filter hq]
        simp only [List.filter_append, List.filter_filter]
        have x1 : q.filter (fun f => decide (f.due ≤ t) && !decide (f.due ≤ a.due)) = [] := by
          rw [List.filter_eq_nil_iff]; intro x _; simp; omega
        have x2 : [a].filter (fun f => decide (f.due ≤ t)) = [] := by simp [ha]
        rw [x1, x2]
        simp only [List.append_nil]
        apply List.filter_congr
        intro x _
        by_cases hx : x.due ≤ t
        · have : x.due ≤ a.due := by omega
          simp [hx, this]
        · simp [hx]
      rw [e1, e2]
      simp [ha]
theorem arrived_sortQ (t : Nat) (cs : List Flight) : arrived t (sortQ cs) = sortQ (cs.filter (isDue t)) ∧ onWay t (sortQ cs) = sortQ (cs.filter (fun c => !isDue t c)) := by
  have h := sortQ_due t cs [] List.Pairwise.nil
  have h2 := sorted_split (sorted_sortQ cs) t
  unfold arrived onWay
  rw [h2.1, h2.2]
  exact h
end Go.Proofs.Ytfpiiehdmdmoeaa
