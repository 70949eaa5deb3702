/-
  The reference's choice, step by step: the best of the first i copies.
-/
import Derived.Test.YtfpiiehdmdmoeaaRefD
namespace Go.Proofs.Ytfpiiehdmdmoeaa

/-- b is the first of the least time among the first i copies that may be chosen; -1: there is none. -/
def Best (e : Flight → Bool) (cs : List Flight) (ds : List Bool) (i : Nat) (b : Int) : Prop :=
  (b = -1 ∧ ∀ j, j < i → ¬ elig e cs ds j) ∨
  ∃ (k : Nat) (x : Flight), b = k ∧ k < i ∧ elig e cs ds k ∧ cs[k]? = some x ∧ (∀ j c, j < k → elig e cs ds j → cs[j]? = some c → x.due < c.due) ∧ (∀ j c, j < i → elig e cs ds j → cs[j]? = some c → x.due ≤ c.due)

section
variable {e : Flight → Bool} {cs : List Flight} {ds : List Bool} {i : Nat} {b : Int}
theorem Best.zero (e : Flight → Bool) (cs : List Flight) (ds : List Bool) : Best e cs ds 0 (-1) := .inl ⟨rfl, fun j h => by omega⟩
theorem Best.skip (h : Best e cs ds i b) (hn : ¬ elig e cs ds i) : Best e cs ds (i + 1) b := by
  rcases h with ⟨hb, h⟩ | ⟨k, x, hb, hk, he, hx, h1, h2⟩
  · exact .inl ⟨hb, fun j hj => by
      by_cases e : j = i
      · subst e; exact hn
      · exact h j (by omega)⟩
  · refine .inr ⟨k, x, hb, by omega, he, hx, h1, fun j c hj hj2 hc => ?_⟩
    by_cases e : j = i
    · subst e; exact absurd hj2 hn
    · exact h2 j c (by omega) hj2 hc
theorem Best.first (h : Best e cs ds i (-1)) (he : elig e cs ds i) {c : Flight} (hc : cs[i]? = some c) : Best e cs ds (i + 1) i := by
  rcases h with ⟨_, h⟩ | ⟨k, x, hb, _⟩
  · refine .inr ⟨i, c, rfl, by omega, he, hc, fun j y hj hj2 _ => absurd hj2 (h j hj), fun j y hj hj2 hy => ?_⟩
    by_cases e : j = i
    · subst e
      rw [hc] at hy
      injection hy with hy
      subst hy
      exact Int.le_refl _
    · exact absurd hj2 (h j (by omega))
  · omega
theorem Best.less {k : Nat} (h : Best e cs ds i k) {x : Flight} (hx : cs[k]? = some x) (he : elig e cs ds i) {c : Flight} (hc : cs[i]? = some c) (hl : c.due < x.due) : Best e cs ds (i + 1) i := by
  rcases h with ⟨hb, h⟩ | ⟨k', x', hb, hk, _, hx', h1, h2⟩
  · omega
  · obtain rfl : k = k' := by omega
    rw [hx] at hx'
    injection hx' with hx'
    subst hx'
    refine .inr ⟨i, c, rfl, by omega, he, hc, fun j y hj hj2 hy => ?_, fun j y hj hj2 hy => ?_⟩
    · have := h2 j y hj hj2 hy
      omega
    · by_cases e : j = i
      · subst e
        rw [hc] at hy
        injection hy with hy
        subst hy
        exact Int.le_refl _
      · have := h2 j y (by omega) hj2 hy
        omega
theorem Best.more {k : Nat} (h : Best e cs ds i k) {x : Flight} (hx : cs[k]? = some x) {c : Flight} (hc : cs[i]? = some c) (hl : ¬ c.due < x.due) : Best e cs ds (i + 1) k := by
  rcases h with ⟨hb, h⟩ | ⟨k', x', hb, hk, he, hx', h1, h2⟩
  · omega
  · obtain rfl : k = k' := by omega
    rw [hx] at hx'
    injection hx' with hx'
    subst hx'
    refine .inr ⟨k, x, rfl, by omega, he, hx, h1, fun j y hj hj2 hy => ?_⟩
    by_cases e : j = i
    · subst e
      rw [hc] at hy
      injection hy with hy
      subst hy
      omega
    · exact h2 j y (by omega) hj2 hy
theorem Best.none (h : Best e cs ds cs.length (-1)) : left e cs ds = [] := by
  rcases h with ⟨_, h⟩ | ⟨k, x, hb, _⟩
  · exact left_none h
  · omega
theorem Best.pick {k : Nat} (h : Best e cs ds cs.length k) {x : Flight} (hx : cs[k]? = some x) : k < cs.length ∧ ds[k]? = some false ∧ sortQ (left e cs ds) = x :: sortQ (left e cs (ds.set k true)) := by
  rcases h with ⟨hb, h⟩ | ⟨k', x', hb, hk, he, hx', h1, h2⟩
  · omega
  · obtain rfl : k = k' := by omega
    rw [hx] at hx'
    injection hx' with hx'
    subst hx'
    obtain ⟨hd, c, hc, hec⟩ := he
    rw [hx] at hc
    injection hc with hc
    subst hc
    exact ⟨hk, hd, left_pick hd hx hec h1 (fun j c hj hc => h2 j c (List.getElem?_eq_some_iff.1 hc).1 hj hc)⟩
end
theorem not_elig_done {e : Flight → Bool} {cs : List Flight} {ds : List Bool} {i : Nat} (hd : ds[i]? = some true) : ¬ elig e cs ds i := fun h => by
  have := h.1
  rw [hd] at this
  cases this
theorem not_elig_no {e : Flight → Bool} {cs : List Flight} {ds : List Bool} {i : Nat} {c : Flight} (hc : cs[i]? = some c) (he : e c = false) : ¬ elig e cs ds i := fun h => by
  obtain ⟨_, c', hc', he'⟩ := h
  rw [hc] at hc'
  injection hc' with hc'
  subst hc'
  rw [he] at he'
  cases he'
end Go.Proofs.Ytfpiiehdmdmoeaa
