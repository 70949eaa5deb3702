/-
  Plain laws of a network: which packets are received, and how often.
-/
import Derived.Test.YtfpiiehdmdmoeaaCmp
import Derived.Test.YtfpiiehdmdmoeaaPureA
namespace Go.Proofs.Ytfpiiehdmdmoeaa

theorem count_append (l r : List Pkt) (p : Pkt) : count (l ++ r) p = count l p + count r p := by simp [count]
theorem count_replicate (c : Nat) (x p : Pkt) : count (List.replicate c x) p = if x.same p = true then c else 0 := by
  unfold count
  by_cases h : x.same p = true
  · rw [if_pos h, List.filter_replicate, if_pos h, List.length_replicate]
  · rw [if_neg h, List.filter_replicate, if_neg h]; rfl
theorem count_pos {l : List Pkt} {p : Pkt} (h : p ∈ l) : 0 < count l p := by
  unfold count
  exact List.length_pos_of_mem (List.mem_filter.2 ⟨h, (Pkt.same_iff p p).2 rfl⟩)
theorem count_zero {l : List Pkt} {p : Pkt} (h : ∀ x ∈ l, x ≠ p) : count l p = 0 := by
  unfold count
  rw [List.filter_eq_nil_iff.2 (fun x hx hs => h x hx ((Pkt.same_iff x p).1 hs))]
  rfl

def pk (q : List Flight) : List Pkt := q.map (·.p)
theorem pk_ins (q : List Flight) (x : Flight) (c : Nat) (p : Pkt) : count (pk (ins q x c)) p = count (pk q) p + (if x.p.same p = true then c else 0) := by
  unfold pk ins
  have e := List.takeWhile_append_dropWhile (p := fun f : Flight => decide (f.due ≤ x.due)) (l := q)
  have h1 : count (q.map (·.p)) p = count ((q.takeWhile (fun f => decide (f.due ≤ x.due))).map (·.p)) p + count ((q.dropWhile (fun f => decide (f.due ≤ x.due))).map (·.p)) p := by
    rw [← count_append, ← List.map_append, e]
  rw [List.map_append, List.map_append, count_append, count_append, List.map_replicate, count_replicate, h1]
  omega
theorem mem_ins {q : List Flight} {x y : Flight} {c : Nat} (h : y ∈ ins q x c) : y ∈ q ∨ y = x := by
  unfold ins at h
  rcases List.mem_append.1 h with h | h
  · rcases List.mem_append.1 h with h | h
    · exact .inl ((List.takeWhile_sublist _).subset h)
    · exact .inr (List.eq_of_mem_replicate h)
  · exact .inl ((List.dropWhile_sublist _).subset h)
theorem pk_split (t : Nat) (q : List Flight) (p : Pkt) : count (pk q) p = count (pk (arrived t q)) p + count (pk (onWay t q)) p := by
  have e := List.takeWhile_append_dropWhile (p := fun f : Flight => decide (f.due ≤ t)) (l := q)
  unfold pk arrived onWay
  rw [← count_append, ← List.map_append, e]

/-- Every house receives just what was sent to it. -/
structure St.Tos (s : St) : Prop where
  gotTo : ∀ h, h < s.got.length → ∀ p ∈ s.got.getD h [], p.dst = h
  wayTo : ∀ h, h < s.got.length → ∀ f ∈ s.net.queues.getD h [], f.p.dst = h
  many : ∀ h, h < s.got.length → ∀ p : Pkt, count (s.got.getD h []) p + count (pk (s.net.queues.getD h [])) p = if p.dst = h then count s.sent p else 0
  sentTo : ∀ p ∈ s.sent, okHouse s.got.length p.dst = true

theorem getD_set_eq {α : Type} (l : List (List α)) (i : Nat) (x : List α) (hi : i < l.length) : (l.set i x).getD i [] = x := by simp [hi]
theorem getD_set_ne {α : Type} (l : List (List α)) (i j : Nat) (x : List α) (hij : i ≠ j) : (l.set i x).getD j [] = l.getD j [] := by simp [hij]

theorem St.step_tos {fates : List Fate} {s : St} (h : s.Tos) (hc : s.Con fates) (hlen : s.net.queues.length = s.got.length) (o : Opn) : (s.step fates o).Tos := by
  rcases step_roads fates s o hlen with ⟨_, hz, e⟩ | ⟨_, _, e⟩ | ⟨_, hh, e⟩ | ⟨_, _, e⟩ | ⟨_, _, e⟩ <;> rw [e]
  · obtain ⟨hok, _, e2⟩ := send_zero hz
    rw [e2]
    have hm : (s.net.fates.headD one).many = (fates.getD s.used one).many := by rw [hc.fates, headD_drop]
    rw [hm]
    generalize (fates.getD s.used one).many = M
    generalize (s.net.fates.headD one).delay = D
    simp only [okSend, Bool.and_eq_true] at hok
    rw [hlen] at hok
    have hd := house_lt hok.1.2
    obtain ⟨d0, d1⟩ := okHouse_yes hok.1.2
    refine ⟨h.gotTo, fun i hi f hf => ?_, fun i hi p => ?_, fun p hp => ?_⟩
    · by_cases hne : o.p.dst.toNat = i
      · subst hne
        rw [getD_set_eq _ _ _ (by omega)] at hf
        rcases mem_ins hf with hf | rfl
        · exact h.wayTo _ hi f hf
        · simp only; omega
      · rw [getD_set_ne _ _ _ _ hne] at hf
        exact h.wayTo i hi f hf
    · have h1 := h.many i hi p
      simp only [count_append, count_replicate]
      by_cases hne : o.p.dst.toNat = i
      · subst hne
        rw [getD_set_eq _ _ _ (by omega), pk_ins]
        simp only
        by_cases hs : o.p.same p = true
        · have := (Pkt.same_iff _ _).1 hs
          subst this
          rw [if_pos (by omega)] at h1
          rw [if_pos hs, if_pos (by omega)]
          omega
        · rw [if_neg hs, Nat.add_zero, Nat.add_zero]
          exact h1
      · rw [getD_set_ne _ _ _ _ hne]
        by_cases hs : o.p.same p = true
        · have := (Pkt.same_iff _ _).1 hs
          subst this
          rw [if_neg (by omega)] at h1 ⊢
          exact h1
        · rw [if_neg hs, Nat.add_zero]
          exact h1
    · rcases List.mem_append.1 hp with hp | hp
      · exact h.sentTo p hp
      · have := List.eq_of_mem_replicate hp
        subst this
        exact hok.1.2
  · exact h
  · have e2 := recv_zero (n := s.net) (x := o.house) (by rw [hlen]; exact hh)
    have hl := house_lt hh
    rw [e2]
    refine ⟨fun i hi p hp => ?_, fun i hi f hf => ?_, fun i hi p => ?_, fun p hp => by simpa using h.sentTo p hp⟩
    · simp only [List.length_set] at hi
      by_cases hne : o.house.toNat = i
      · subst hne
        simp only at hp
        rw [getD_set_eq _ _ _ hl] at hp
        rcases List.mem_append.1 hp with hp | hp
        · exact h.gotTo _ hi p hp
        · obtain ⟨f, hf, rfl⟩ := List.mem_map.1 hp
          exact h.wayTo _ hi f ((List.takeWhile_sublist _).subset hf)
      · simp only at hp
        rw [getD_set_ne _ _ _ _ hne] at hp
        exact h.gotTo i hi p hp
    · simp only [List.length_set] at hi
      by_cases hne : o.house.toNat = i
      · subst hne
        simp only at hf
        rw [getD_set_eq _ _ _ (by omega)] at hf
        exact h.wayTo _ hi f ((List.dropWhile_sublist _).subset hf)
      · simp only at hf
        rw [getD_set_ne _ _ _ _ hne] at hf
        exact h.wayTo i hi f hf
    · simp only [List.length_set] at hi
      have h1 := h.many i hi p
      by_cases hne : o.house.toNat = i
      · subst hne
        simp only
        rw [getD_set_eq _ _ _ hl, getD_set_eq _ _ _ (by omega), count_append]
        rw [pk_split s.net.time] at h1
        unfold pk at h1 ⊢
        omega
      · simp only
        rw [getD_set_ne _ _ _ _ hne, getD_set_ne _ _ _ _ hne]
        exact h1
  · exact h
  · exact ⟨h.gotTo, h.wayTo, h.many, h.sentTo⟩

theorem getD_replicate (n i : Nat) {α : Type} : (List.replicate n ([] : List α)).getD i [] = [] := by
  by_cases h : i < n
  · simp [h]
  · simp [h]
theorem St.start_tos (fates : List Fate) (h : Nat) : (St.start (Net.new h fates) h).Tos := by
  refine ⟨fun i _ p hp => ?_, fun i _ p hp => ?_, fun i _ p => ?_, fun p hp => by cases hp⟩
  · simp only [St.start] at hp
    rw [getD_replicate] at hp
    cases hp
  · simp only [St.start, Net.new] at hp
    rw [getD_replicate] at hp
    cases hp
  · simp only [St.start, Net.new]
    rw [getD_replicate, getD_replicate]
    simp [count, pk]
theorem St.run_tos {fates : List Fate} (hf : ∀ f ∈ fates, f.ok = true) : ∀ (l : List Opn) {s : St} {k : Nat}, s.Inv k → s.Con fates → s.Tos → k + l.length ≤ 100000 → (s.run fates l).Tos
  | [], _, _, _, _, h, _ => h
  | o :: l, s, k, hi, hc, h, hk => by
    simp only [List.length_cons] at hk
    exact St.run_tos hf l (St.step_inv hf hi (by omega) o) (St.step_con hc hi.ok hi.len o) (St.step_tos h hc hi.len o) (by omega)
theorem played_tos {fates : List Fate} (hf : ∀ f ∈ fates, f.ok = true) {h : Nat} (h1 : 1 ≤ h) (h2 : h ≤ 12) (l : List Opn) (hl : l.length ≤ 1000) : ((St.start (Net.new h fates) h).run fates l).Tos :=
  St.run_tos hf l (St.start_inv hf h1 h2) (St.start_con fates h) (St.start_tos fates h) (by omega)

/-- What a house received was sent to it, each packet at most as often as it has copies. -/
theorem invents {s : St} (h : s.Tos) {i : Nat} (hi : i < s.got.length) {p : Pkt} (hp : p ∈ s.got.getD i []) : p.dst = i ∧ count (s.got.getD i []) p ≤ count s.sent p := by
  have h1 := h.gotTo i hi p hp
  have h2 := h.many i hi p
  rw [if_pos h1] at h2
  exact ⟨h1, by omega⟩
end Go.Proofs.Ytfpiiehdmdmoeaa
