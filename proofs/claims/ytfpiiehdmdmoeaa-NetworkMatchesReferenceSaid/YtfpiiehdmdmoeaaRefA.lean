/-
  The reference network in plain terms: a list of copies; a queue is the copies of a house, put in one by one.
-/
import Derived.Test.YtfpiiehdmdmoeaaPure
namespace Go.Proofs.Ytfpiiehdmdmoeaa

def Rf.new (houses : Nat) (fates : List Fate) : Rf := ⟨houses, fates, 0, []⟩
def Rf.send (r : Rf) (p : Pkt) : Rf × Int :=
  if okSend r.houses p = false then (r, 1)
  else
    let f := r.fates.headD one
    if 4000 < r.copies.length + f.many then (r, 3)
    else (⟨r.houses, r.fates.tail, r.time, r.copies ++ List.replicate f.many ⟨p, r.time + f.delay⟩⟩, 0)
def Rf.step (r : Rf) : Rf := ⟨r.houses, r.fates, r.time + 1, r.copies⟩

/-- The copies by their times, first come first. -/
def sortQ (cs : List Flight) : List Flight := cs.foldl (fun q x => ins q x 1) []
def isFor (h : Int) (c : Flight) : Bool := c.p.dst == h
def isDue (t : Nat) (c : Flight) : Bool := decide (c.due ≤ t)

theorem sortQ_snoc (cs : List Flight) (x : Flight) : sortQ (cs ++ [x]) = ins (sortQ cs) x 1 := by simp [sortQ]

/-- c copies put in at once are c copies put in one by one. -/
theorem takeWhile_app {p : Flight → Bool} {a b : List Flight} (h : ∀ x ∈ a, p x = true) : (a ++ b).takeWhile p = a ++ b.takeWhile p ∧ (a ++ b).dropWhile p = b.dropWhile p := by
  induction a with
  | nil => exact ⟨rfl, rfl⟩
  | cons y a ih =>
    have hy := h y (by simp)
    have := ih (fun x hx => h x (by simp [hx]))
    simp [hy, this.1, this.2]
theorem ins_succ (q : List Flight) (x : Flight) (c : Nat) : ins q x (c + 1) = ins (ins q x c) x 1 := by
  unfold ins
  have h1 : ∀ y ∈ q.takeWhile (fun f => decide (f.due ≤ x.due)) ++ List.replicate c x, decide (y.due ≤ x.due) = true := by
    intro y hy
    rcases List.mem_append.1 hy with hy | hy
    · exact mem_takeWhile (p := fun f : Flight => decide (f.due ≤ x.due)) hy
    · rw [List.eq_of_mem_replicate hy]; simp
  have h2 : (q.dropWhile (fun f => decide (f.due ≤ x.due))).takeWhile (fun f => decide (f.due ≤ x.due)) = [] ∧ (q.dropWhile (fun f => decide (f.due ≤ x.due))).dropWhile (fun f => decide (f.due ≤ x.due)) = q.dropWhile (fun f => decide (f.due ≤ x.due)) := by
    have h := List.head?_dropWhile_not (fun f : Flight => decide (f.due ≤ x.due)) q
    cases hd : q.dropWhile (fun f => decide (f.due ≤ x.due)) with
    | nil => exact ⟨rfl, rfl⟩
    | cons a r =>
      rw [hd] at h
      simp only [List.head?_cons] at h
      rw [List.takeWhile_cons, List.dropWhile_cons]
      have h' : ¬ a.due ≤ x.due := by simpa using h
      simp [h']
  obtain ⟨e1, e2⟩ := takeWhile_app (p := fun f => decide (f.due ≤ x.due)) (b := q.dropWhile (fun f => decide (f.due ≤ x.due))) h1
  rw [e1, e2, h2.1, h2.2, List.append_nil, List.replicate_succ']
  simp [List.append_assoc]

theorem sortQ_copies (cs : List Flight) (x : Flight) : ∀ c, sortQ (cs ++ List.replicate c x) = ins (sortQ cs) x c
  | 0 => by unfold ins; simp
  | c + 1 => by rw [List.replicate_succ', ← List.append_assoc, sortQ_snoc, sortQ_copies cs x c, ← ins_succ]

theorem mem_ins1 {q : List Flight} {x y : Flight} : y ∈ ins q x 1 ↔ y ∈ q ∨ y = x := by
  unfold ins
  constructor
  · intro h
    simp only [List.mem_append, List.replicate_one, List.mem_singleton] at h
    rcases h with (h | h) | h
    · exact .inl ((List.takeWhile_sublist _).subset h)
    · exact .inr h
    · exact .inl ((List.dropWhile_sublist _).subset h)
  · rintro (h | h)
    · rw [← List.takeWhile_append_dropWhile (p := fun f : Flight => decide (f.due ≤ x.due)) (l := q)] at h
      simp only [List.mem_append] at h ⊢
      rcases h with h | h
      · exact .inl (.inl h)
      · exact .inr h
    · simp [h]
end Go.Proofs.Ytfpiiehdmdmoeaa
