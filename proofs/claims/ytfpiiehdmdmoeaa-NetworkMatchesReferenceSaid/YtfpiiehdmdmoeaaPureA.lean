/-
  Plain laws of a network: what is kept by each operation; nothing is lost but what the fates lose.
-/
import Derived.Test.YtfpiiehdmdmoeaaPlay
namespace Go.Proofs.Ytfpiiehdmdmoeaa

def sumLen (gs : List (List Pkt)) : Nat := (gs.map List.length).sum

theorem sumLen_set : ∀ (gs : List (List Pkt)) (i : Nat) (q : List Pkt), i < gs.length → sumLen (gs.set i q) + (gs.getD i []).length = sumLen gs + q.length
  | [], _, _, h => by simp at h
  | a :: gs, 0, q, _ => by simp [sumLen]; omega
  | a :: gs, i + 1, q, h => by
    have := sumLen_set gs i q (by simpa using h)
    simp only [sumLen, List.set_cons_succ, List.map_cons, List.sum_cons, List.getD_cons_succ] at this ⊢
    omega

theorem headD_drop (fates : List Fate) (u : Nat) : (fates.drop u).headD one = fates.getD u one := by
  rw [List.headD_eq_head?_getD, List.head?_drop]
  simp

/-- What the fates that are left are, and how many packets there are. -/
structure St.Con (fates : List Fate) (s : St) : Prop where
  fates : s.net.fates = fates.drop s.used
  sum : sumLen s.got + s.net.waiting = s.sent.length

theorem send_zero {n : Net} {p : Pkt} (h : (n.send p).2 = 0) : okSend n.queues.length p = true ∧ n.waiting + (n.fates.headD one).many ≤ 4000 ∧
    (n.send p).1 = ⟨n.fates.tail, n.time, n.waiting + (n.fates.headD one).many, n.queues.set p.dst.toNat (ins (n.queues.getD p.dst.toNat []) ⟨p, n.time + (n.fates.headD one).delay⟩ (n.fates.headD one).many)⟩ := by
  unfold Net.send at h ⊢
  split at h
  · simp at h
  · rename_i hs
    simp only at h ⊢
    split at h
    · simp at h
    · rename_i hw
      rw [if_neg hs, if_neg hw]
      exact ⟨by simpa using hs, by omega, rfl⟩
theorem send_other {n : Net} {p : Pkt} (h : ¬ (n.send p).2 = 0) : (n.send p).1 = n := by
  unfold Net.send at h ⊢
  split
  · rfl
  · rename_i hs
    rw [if_neg hs] at h
    simp only at h ⊢
    split
    · rfl
    · rename_i hw
      rw [if_neg hw] at h
      exact absurd rfl h
theorem recv_zero {n : Net} {x : Int} (h : okHouse n.queues.length x = true) : n.recv x =
    (⟨n.fates, n.time, n.waiting - (arrived n.time (n.queues.getD x.toNat [])).length, n.queues.set x.toNat (onWay n.time (n.queues.getD x.toNat []))⟩, (arrived n.time (n.queues.getD x.toNat [])).map (·.p), 0) := by
  unfold Net.recv
  rw [if_neg (by simp [h])]
theorem recv_other {n : Net} {x : Int} (h : okHouse n.queues.length x = false) : n.recv x = (n, [], 1) := by
  unfold Net.recv
  rw [if_pos h]
theorem house_lt {n : Nat} {x : Int} (h : okHouse n x = true) : x.toNat < n := by
  obtain ⟨h0, h1⟩ := okHouse_yes h
  omega
theorem arrived_wait {n : Net} (h : n.Ok) {x : Nat} (hx : x < n.queues.length) : (arrived n.time (n.queues.getD x [])).length ≤ n.waiting := by
  have h1 := arrived_le n.time (n.queues.getD x [])
  have h2 := len_le_total (getD_mem hx)
  have h3 := h.wait
  omega

/-- The roads of one operation. -/
theorem step_roads (fates : List Fate) (s : St) (o : Opn) (hlen : s.net.queues.length = s.got.length) :
    (o.kind = 0 ∧ (s.net.send o.p).2 = 0 ∧ s.step fates o = ⟨(s.net.send o.p).1, s.used + 1, s.sent ++ List.replicate (fates.getD s.used one).many o.p, s.got⟩) ∨
    (o.kind = 0 ∧ ¬ (s.net.send o.p).2 = 0 ∧ s.step fates o = s) ∨
    (o.kind = 1 ∧ okHouse s.got.length o.house = true ∧ s.step fates o = ⟨(s.net.recv o.house).1, s.used, s.sent, s.got.set o.house.toNat (s.got.getD o.house.toNat [] ++ (s.net.recv o.house).2.1)⟩) ∨
    (o.kind = 1 ∧ okHouse s.got.length o.house = false ∧ s.step fates o = s) ∨
    (¬ o.kind = 0 ∧ ¬ o.kind = 1 ∧ s.step fates o = ⟨s.net.step, s.used, s.sent, s.got⟩) := by
  unfold St.step
  by_cases h0 : o.kind = 0
  · rw [if_pos h0]
    by_cases h1 : (s.net.send o.p).2 = 0
    · rw [if_pos h1]; exact .inl ⟨h0, h1, rfl⟩
    · rw [if_neg h1, send_other h1]; exact .inr (.inl ⟨h0, h1, rfl⟩)
  · rw [if_neg h0]
    by_cases h1 : o.kind = 1
    · rw [if_pos h1]
      cases hh : okHouse s.got.length o.house with
      | true =>
        have e := recv_zero (n := s.net) (x := o.house) (by rw [hlen]; exact hh)
        rw [if_pos ⟨rfl, by rw [e]⟩]
        exact .inr (.inr (.inl ⟨h1, rfl, rfl⟩))
      | false =>
        have e := recv_other (n := s.net) (x := o.house) (by rw [hlen]; exact hh)
        rw [if_neg (by simp), e]
        exact .inr (.inr (.inr (.inl ⟨h1, rfl, rfl⟩)))
    · rw [if_neg h1]
      exact .inr (.inr (.inr (.inr ⟨h0, h1, rfl⟩)))

theorem St.step_con {fates : List Fate} {s : St} (h : s.Con fates) (hok : s.net.Ok) (hlen : s.net.queues.length = s.got.length) (o : Opn) : (s.step fates o).Con fates := by
  have hsum := h.sum
  rcases step_roads fates s o hlen with ⟨_, hz, e⟩ | ⟨_, _, e⟩ | ⟨_, hh, e⟩ | ⟨_, _, e⟩ | ⟨_, _, e⟩ <;> rw [e]
  · obtain ⟨_, _, e2⟩ := send_zero hz
    rw [e2]
    have hm : (s.net.fates.headD one).many = (fates.getD s.used one).many := by rw [h.fates, headD_drop]
    refine ⟨by simp only [h.fates, List.tail_drop], ?_⟩
    simp only [List.length_append, List.length_replicate]
    omega
  · exact h
  · have e2 := recv_zero (n := s.net) (x := o.house) (by rw [hlen]; exact hh)
    have hl := house_lt hh
    rw [e2]
    have h1 := sumLen_set s.got o.house.toNat (s.got.getD o.house.toNat [] ++ (arrived s.net.time (s.net.queues.getD o.house.toNat [])).map (·.p)) hl
    have h2 := arrived_wait hok (x := o.house.toNat) (by omega)
    simp only [List.length_append, List.length_map] at h1
    refine ⟨h.fates, ?_⟩
    simp only
    omega
  · exact h
  · exact ⟨h.fates, h.sum⟩

theorem sumLen_nil (h : Nat) : sumLen (List.replicate h []) = 0 := by simp [sumLen]

theorem St.start_con (fates : List Fate) (h : Nat) : (St.start (Net.new h fates) h).Con fates := ⟨rfl, by simp [St.start, Net.new, sumLen_nil]⟩
theorem St.start_inv {fates : List Fate} (hf : ∀ f ∈ fates, f.ok = true) {h : Nat} (h1 : 1 ≤ h) (h2 : h ≤ 12) : (St.start (Net.new h fates) h).Inv 0 :=
  ⟨Net.new_ok h1 h2 hf, by simp [St.start, Net.new], by simp [St.start, Net.new], by simp [St.start], by simp [St.start], fun q hq => by
    have := List.eq_of_mem_replicate hq
    subst this
    simp⟩

theorem St.run_con {fates : List Fate} (hf : ∀ f ∈ fates, f.ok = true) : ∀ (l : List Opn) {s : St} {k : Nat}, s.Inv k → s.Con fates → k + l.length ≤ 100000 → (s.run fates l).Con fates
  | [], _, _, _, h, _ => h
  | o :: l, s, k, hi, h, hk => by
    simp only [List.length_cons] at hk
    exact St.run_con hf l (St.step_inv hf hi (by omega) o) (St.step_con h hi.ok hi.len o) (by omega)

theorem conserves {fates : List Fate} (hf : ∀ f ∈ fates, f.ok = true) {h : Nat} (h1 : 1 ≤ h) (h2 : h ≤ 12) (l : List Opn) (hl : l.length ≤ 1000) :
    sumLen ((St.start (Net.new h fates) h).run fates l).got + ((St.start (Net.new h fates) h).run fates l).net.waiting = ((St.start (Net.new h fates) h).run fates l).sent.length :=
  (St.run_con hf l (St.start_inv hf h1 h2) (St.start_con fates h) (by omega)).sum
end Go.Proofs.Ytfpiiehdmdmoeaa
