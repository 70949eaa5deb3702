/-
  Operations on a network, in plain terms: what was sent and received; what every network keeps.
-/
import Derived.Test.YtfpiiehdmdmoeaaPure
namespace Go.Proofs.Ytfpiiehdmdmoeaa

structure Opn where
  kind : Int
  house : Int
  p : Pkt

structure St where
  net : Net
  used : Nat
  sent : List Pkt
  got : List (List Pkt)

def St.step (fates : List Fate) (s : St) (o : Opn) : St :=
  if o.kind = 0 then
    if (s.net.send o.p).2 = 0 then ⟨(s.net.send o.p).1, s.used + 1, s.sent ++ List.replicate (fates.getD s.used one).many o.p, s.got⟩
    else ⟨(s.net.send o.p).1, s.used, s.sent, s.got⟩
  else if o.kind = 1 then
    if okHouse s.got.length o.house = true ∧ (s.net.recv o.house).2.2 = 0 then ⟨(s.net.recv o.house).1, s.used, s.sent, s.got.set o.house.toNat (s.got.getD o.house.toNat [] ++ (s.net.recv o.house).2.1)⟩
    else ⟨(s.net.recv o.house).1, s.used, s.sent, s.got⟩
  else ⟨s.net.step, s.used, s.sent, s.got⟩

def St.run (fates : List Fate) (s : St) (l : List Opn) : St := l.foldl (St.step fates) s

def St.start (n : Net) (houses : Nat) : St := ⟨n, 0, [], List.replicate houses []⟩

theorem length_ins (q : List Flight) (x : Flight) (c : Nat) : (ins q x c).length = q.length + c := by
  unfold ins
  have := congrArg List.length (List.takeWhile_append_dropWhile (p := fun f : Flight => decide (f.due ≤ x.due)) (l := q))
  simp only [List.length_append] at this
  simp only [List.length_append, List.length_replicate]
  omega

theorem total_set : ∀ (qs : List (List Flight)) (i : Nat) (q : List Flight), i < qs.length → total (qs.set i q) + (qs.getD i []).length = total qs + q.length
  | [], _, _, h => by simp at h
  | a :: qs, 0, q, _ => by simp [total]; omega
  | a :: qs, i + 1, q, h => by
    have := total_set qs i q (by simpa using h)
    simp only [total, List.set_cons_succ, List.map_cons, List.sum_cons, List.getD_cons_succ] at this ⊢
    omega

theorem mem_dropWhile_not {q : List Flight} {t : Int} (hs : sorted q) {x : Flight} (hx : x ∈ q.dropWhile (fun f => decide (f.due ≤ t))) : t < x.due := by
  induction q with
  | nil => cases hx
  | cons a q ih =>
    rw [List.dropWhile_cons] at hx
    split at hx
    · exact ih (List.Pairwise.of_cons hs) hx
    · rename_i ha
      have ha : t < a.due := by simpa using ha
      rcases List.mem_cons.1 hx with rfl | hx
      · exact ha
      · have := (List.pairwise_cons.1 hs).1 x hx
        omega

theorem sorted_ins {q : List Flight} (hs : sorted q) (x : Flight) (c : Nat) : sorted (ins q x c) := by
  unfold ins sorted
  have e := List.takeWhile_append_dropWhile (p := fun f : Flight => decide (f.due ≤ x.due)) (l := q)
  have hs2 := hs
  unfold sorted at hs2
  rw [← e, List.pairwise_append] at hs2
  rw [List.append_assoc, List.pairwise_append, List.pairwise_append]
  refine ⟨hs2.1, ⟨?_, hs2.2.1, ?_⟩, ?_⟩
  · rw [List.pairwise_replicate]
    right
    omega
  · intro a ha b hb
    have := List.eq_of_mem_replicate ha
    subst this
    have := mem_dropWhile_not hs hb
    omega
  · intro a ha b hb
    have h1 : a.due ≤ x.due := by simpa using mem_takeWhile ha
    rcases List.mem_append.1 hb with hb | hb
    · have := List.eq_of_mem_replicate hb
      subst this
      exact h1
    · have := mem_dropWhile_not hs hb
      omega

theorem getD_mem {qs : List (List Flight)} {i : Nat} (h : i < qs.length) : qs.getD i [] ∈ qs := by simp [h]

theorem Net.send_ok {n : Net} (h : n.Ok) (p : Pkt) : (n.send p).1.Ok := by
  unfold Net.send
  split
  · exact h
  · rename_i hs
    have hs : okSend n.queues.length p = true := by simpa using hs
    simp only
    split
    · exact h
    · rename_i hw
      simp only [okSend, Bool.and_eq_true] at hs
      obtain ⟨d0, d1⟩ := okHouse_yes hs.1.2
      have hi : p.dst.toNat < n.queues.length := by omega
      refine ⟨fun f hf => h.fates f (List.mem_of_mem_tail hf), fun q hq => ?_, ?_, by simp only; omega, by simpa using h.houses, h.time⟩
      · rcases List.mem_or_eq_of_mem_set hq with hq | hq
        · exact h.srt q hq
        · subst hq
          exact sorted_ins (h.srt _ (getD_mem hi)) _ _
      · have h1 := total_set n.queues p.dst.toNat (ins (n.queues.getD p.dst.toNat []) ⟨p, n.time + (n.fates.headD one).delay⟩ (n.fates.headD one).many) hi
        rw [length_ins] at h1
        have h2 := h.wait
        simp only
        omega

theorem Net.recv_ok {n : Net} (h : n.Ok) (x : Int) : (n.recv x).1.Ok := by
  unfold Net.recv
  split
  · exact h
  · rename_i hs
    have hs : okHouse n.queues.length x = true := by simpa using hs
    obtain ⟨d0, d1⟩ := okHouse_yes hs
    have hi : x.toNat < n.queues.length := by omega
    have he := arrived_eq n.time (n.queues.getD x.toNat [])
    have hl := arrived_le n.time (n.queues.getD x.toNat [])
    have h1 := total_set n.queues x.toNat (onWay n.time (n.queues.getD x.toNat [])) hi
    rw [he.2, List.length_drop] at h1
    have h2 := h.wait
    have h3 := len_le_total (getD_mem hi)
    have h4 := h.low
    refine ⟨h.fates, fun q hq => ?_, ?_, by simp only; omega, by simpa using h.houses, h.time⟩
    · rcases List.mem_or_eq_of_mem_set hq with hq | hq
      · exact h.srt q hq
      · subst hq
        rw [he.2]
        exact List.Pairwise.sublist (List.drop_sublist _ _) (h.srt _ (getD_mem hi))
    · simp only
      rw [he.2]
      omega

theorem Net.step_ok {n : Net} (h : n.Ok) (ht : n.time + 1 ≤ 100000) : n.step.Ok := ⟨h.fates, h.srt, h.wait, h.low, h.houses, ht⟩

theorem total_nil (h : Nat) : total (List.replicate h []) = 0 := by simp [total]

theorem Net.new_ok {h : Nat} (h1 : 1 ≤ h) (h2 : h ≤ 12) {fs : List Fate} (hf : ∀ f ∈ fs, f.ok = true) : (Net.new h fs).Ok :=
  ⟨hf, fun q hq => by
    have := List.eq_of_mem_replicate hq
    subst this
    exact List.Pairwise.nil, (total_nil h).symm, by simp [Net.new], by simp [Net.new]; omega, by simp [Net.new]⟩

theorem Net.send_len (n : Net) (p : Pkt) : (n.send p).1.queues.length = n.queues.length := by
  unfold Net.send
  split
  · rfl
  · simp only
    split
    · rfl
    · simp
theorem Net.recv_len (n : Net) (x : Int) : (n.recv x).1.queues.length = n.queues.length := by
  unfold Net.recv
  split
  · rfl
  · simp
theorem Net.send_time (n : Net) (p : Pkt) : (n.send p).1.time = n.time := by
  unfold Net.send
  split
  · rfl
  · simp only
    split <;> rfl
theorem Net.recv_time (n : Net) (x : Int) : (n.recv x).1.time = n.time := by
  unfold Net.recv
  split <;> rfl
theorem Net.recv_many (n : Net) (h : n.Ok) (x : Int) : (n.recv x).2.1.length ≤ 4000 := by
  unfold Net.recv
  split
  · simp
  · rename_i hs
    have hs : okHouse n.queues.length x = true := by simpa using hs
    obtain ⟨d0, d1⟩ := okHouse_yes hs
    have hi : x.toNat < n.queues.length := by omega
    have hl := arrived_le n.time (n.queues.getD x.toNat [])
    have h3 := len_le_total (getD_mem hi)
    have h2 := h.wait
    have h4 := h.low
    simp only [List.length_map]
    omega

/-- What holds of a book after k operations. -/
structure St.Inv (s : St) (k : Nat) : Prop where
  ok : s.net.Ok
  len : s.net.queues.length = s.got.length
  time : s.net.time ≤ k
  used : s.used ≤ k
  sent : s.sent.length ≤ 9 * k
  got : ∀ l ∈ s.got, l.length ≤ 4000 * k

theorem many_le9 {fates : List Fate} (hf : ∀ f ∈ fates, f.ok = true) (u : Nat) : (fates.getD u one).many ≤ 9 := by
  by_cases h : u < fates.length
  · have : fates.getD u one = fates[u] := by simp [h]
    rw [this]
    exact Fate.many_le (hf _ (List.getElem_mem h))
  · have : fates.getD u one = one := by simp [List.getElem?_eq_none (Nat.le_of_not_lt h)]
    rw [this]
    decide

theorem getD_le {gs : List (List Pkt)} {k : Nat} (h : ∀ l ∈ gs, l.length ≤ k) (i : Nat) : (gs.getD i []).length ≤ k := by
  by_cases hi : i < gs.length
  · have : gs.getD i [] ∈ gs := by simp [hi]
    exact h _ this
  · have : gs.getD i [] = [] := by simp [List.getElem?_eq_none (Nat.le_of_not_lt hi)]
    rw [this]
    exact Nat.zero_le _

theorem St.step_inv {fates : List Fate} (hf : ∀ f ∈ fates, f.ok = true) {s : St} {k : Nat} (h : s.Inv k) (hk : k + 1 ≤ 100000) (o : Opn) : (s.step fates o).Inv (k + 1) := by
  have hg : ∀ l ∈ s.got, l.length ≤ 4000 * (k + 1) := fun l hl => by have := h.got l hl; omega
  have ht := h.time
  have hu := h.used
  have hsn := h.sent
  have hm := many_le9 hf s.used
  unfold St.step
  split
  · split
    · exact ⟨Net.send_ok h.ok _, by rw [Net.send_len]; exact h.len, by rw [Net.send_time]; omega, by simp only; omega, by simp only [List.length_append, List.length_replicate]; omega, hg⟩
    · exact ⟨Net.send_ok h.ok _, by rw [Net.send_len]; exact h.len, by rw [Net.send_time]; omega, by simp only; omega, by simp only; omega, hg⟩
  · split
    · split
      · refine ⟨Net.recv_ok h.ok _, by rw [Net.recv_len, List.length_set]; exact h.len, by rw [Net.recv_time]; omega, by simp only; omega, by simp only; omega, fun l hl => ?_⟩
        rcases List.mem_or_eq_of_mem_set hl with hl | hl
        · exact hg l hl
        · subst hl
          have h1 := Net.recv_many s.net h.ok o.house
          have h2 := getD_le h.got o.house.toNat
          simp only [List.length_append]
          omega
      · exact ⟨Net.recv_ok h.ok _, by rw [Net.recv_len]; exact h.len, by rw [Net.recv_time]; omega, by simp only; omega, by simp only; omega, hg⟩
    · exact ⟨Net.step_ok h.ok (by omega), h.len, by simp only [Net.step]; omega, by simp only; omega, by simp only; omega, hg⟩

theorem St.step_len (fates : List Fate) (s : St) (o : Opn) : (s.step fates o).got.length = s.got.length := by
  unfold St.step
  split
  · split <;> rfl
  · split
    · split <;> simp
    · rfl

theorem St.run_snoc (fates : List Fate) (s : St) (l : List Opn) (o : Opn) : s.run fates (l ++ [o]) = (s.run fates l).step fates o := by simp [St.run]
theorem St.run_inv {fates : List Fate} (hf : ∀ f ∈ fates, f.ok = true) : ∀ (l : List Opn) {s : St} {k : Nat}, s.Inv k → k + l.length ≤ 100000 → (s.run fates l).Inv (k + l.length)
  | [], s, k, h, _ => h
  | o :: l, s, k, h, hk => by
    simp only [List.length_cons] at hk
    have h1 := St.run_inv hf l (St.step_inv hf h (by omega) o) (by omega)
    have e : k + 1 + l.length = k + (o :: l).length := by simp only [List.length_cons]; omega
    rw [← e]
    exact h1
theorem St.run_len (fates : List Fate) : ∀ (l : List Opn) (s : St), (s.run fates l).got.length = s.got.length
  | [], _ => rfl
  | o :: l, s => (St.run_len fates l (s.step fates o)).trans (St.step_len fates s o)
end Go.Proofs.Ytfpiiehdmdmoeaa
