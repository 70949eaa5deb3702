/-
  A network and its reference, side by side.
-/
import Derived.Test.YtfpiiehdmdmoeaaRefB
import Derived.Test.YtfpiiehdmdmoeaaPureB
namespace Go.Proofs.Ytfpiiehdmdmoeaa

def Rf.recv (r : Rf) (h : Int) : Rf × List Pkt × Int :=
  if okHouse r.houses h = false then (r, [], 1)
  else (⟨r.houses, r.fates, r.time, r.copies.filter (fun c => !(isFor h c && isDue r.time c))⟩, (sortQ (r.copies.filter (fun c => isFor h c && isDue r.time c))).map (·.p), 0)

structure Sim (N : Net) (r : Rf) : Prop where
  fates : N.fates = r.fates
  time : N.time = r.time
  wait : N.waiting = r.copies.length
  houses : N.queues.length = r.houses
  queue : ∀ i : Nat, i < r.houses → N.queues.getD i [] = sortQ (r.copies.filter (isFor i))

theorem sortQ_length (cs : List Flight) : (sortQ cs).length = cs.length := by
  have : ∀ (cs q : List Flight), (cs.foldl (fun q x => ins q x 1) q).length = q.length + cs.length := by
    intro cs
    induction cs with
    | nil => intro q; rfl
    | cons a cs ih =>
      intro q
      rw [List.foldl_cons, ih]
      have : (ins q a 1).length = q.length + 1 := by
        unfold ins
        have := congrArg List.length (List.takeWhile_append_dropWhile (p := fun f : Flight => decide (f.due ≤ a.due)) (l := q))
        simp only [List.length_append, List.length_replicate] at this ⊢
        omega
      rw [this]
      simp
      omega
  simpa [sortQ] using this cs []

theorem Sim.new (houses : Nat) (fates : List Fate) : Sim (Net.new houses fates) (Rf.new houses fates) :=
  ⟨rfl, rfl, rfl, by simp [Net.new, Rf.new], fun i hi => by
    have : (List.replicate houses ([] : List Flight)).getD i [] = [] := by
      rw [List.getD_eq_getElem?_getD, List.getElem?_replicate]
      split <;> rfl
    exact this⟩
theorem Sim.step {N : Net} {r : Rf} (h : Sim N r) : Sim N.step r.step := ⟨h.fates, by simp [Net.step, Rf.step, h.time], h.wait, h.houses, h.queue⟩
theorem Sim.send {N : Net} {r : Rf} (h : Sim N r) (p : Pkt) : (N.send p).2 = (r.send p).2 ∧ Sim (N.send p).1 (r.send p).1 := by
  unfold Net.send Rf.send
  rw [h.houses, h.fates, h.wait, h.time]
  by_cases h1 : okSend r.houses p = false
  · rw [if_pos h1, if_pos h1]
    exact ⟨rfl, h⟩
  · rw [if_neg h1, if_neg h1]
    simp only
    by_cases h2 : 4000 < r.copies.length + (r.fates.headD one).many
    · rw [if_pos h2, if_pos h2]
      exact ⟨rfl, h⟩
    · rw [if_neg h2, if_neg h2]
      refine ⟨rfl, rfl, rfl, by simp, by simp [h.houses], fun i hi => ?_⟩
      simp only [Bool.not_eq_false, okSend, Bool.and_eq_true] at h1
      have hd := okHouse_yes h1.1.2
      simp only [List.filter_append]
      by_cases hi2 : p.dst.toNat = i
      · subst hi2
        rw [getD_set_eq _ _ _ (by rw [h.houses]; omega), h.queue _ hi]
        have e : ∀ c, (List.replicate c (⟨p, r.time + (r.fates.headD one).delay⟩ : Flight)).filter (isFor (p.dst.toNat : Int)) = List.replicate c ⟨p, r.time + (r.fates.headD one).delay⟩ := fun c => by
          rw [List.filter_eq_self]
          intro x hx
          rw [List.eq_of_mem_replicate hx]
          simp only [isFor, beq_iff_eq]
          omega
        rw [e, sortQ_copies]
      · rw [getD_set_ne _ _ _ _ hi2, h.queue _ hi]
        have e : ∀ c, (List.replicate c (⟨p, r.time + (r.fates.headD one).delay⟩ : Flight)).filter (isFor (i : Int)) = [] := fun c => by
          rw [List.filter_eq_nil_iff]
          intro x hx
          rw [List.eq_of_mem_replicate hx]
          simp only [isFor, beq_iff_eq]
          omega
        rw [e, List.append_nil]
theorem filter_split_length (p : Flight → Bool) (cs : List Flight) : (cs.filter p).length + (cs.filter (fun c => !p c)).length = cs.length := by
  induction cs with
  | nil => rfl
  | cons a cs ih => cases e : p a <;> simp [e] <;> omega
theorem Sim.recv {N : Net} {r : Rf} (h : Sim N r) (x : Int) : (N.recv x).2 = (r.recv x).2 ∧ Sim (N.recv x).1 (r.recv x).1 := by
  unfold Net.recv Rf.recv
  rw [h.houses, h.fates, h.wait, h.time]
  by_cases h1 : okHouse r.houses x = false
  · rw [if_pos h1, if_pos h1]
    exact ⟨rfl, h⟩
  · rw [if_neg h1, if_neg h1]
    simp only [Bool.not_eq_false] at h1
    obtain ⟨h0, h2⟩ := okHouse_yes h1
    obtain ⟨k, rfl⟩ := Int.eq_ofNat_of_zero_le h0
    have hk : k < r.houses := by omega
    simp only [Int.toNat_natCast]
    rw [h.queue k hk, (arrived_sortQ r.time _).1, (arrived_sortQ r.time _).2, List.filter_filter, List.filter_filter]
    have e1 : r.copies.filter (fun a => isDue r.time a && isFor (k : Int) a) = r.copies.filter (fun c => isFor (k : Int) c && isDue r.time c) := List.filter_congr (fun c _ => Bool.and_comm _ _)
    rw [e1]
    refine ⟨rfl, rfl, rfl, ?_, by simp [h.houses], fun i hi => ?_⟩
    · have := filter_split_length (fun c => isFor (k : Int) c && isDue r.time c) r.copies
      simp only [sortQ_length]
      omega
    · simp only
      rw [List.filter_filter]
      by_cases hik : k = i
      · subst hik
        rw [getD_set_eq _ _ _ (by rw [h.houses]; omega)]
        congr 1
        apply List.filter_congr
        intro c _
        cases isFor (k : Int) c <;> cases isDue r.time c <;> rfl
      · rw [getD_set_ne _ _ _ _ hik, h.queue _ hi]
        congr 1
        apply List.filter_congr
        intro c _
        cases e : isFor (i : Int) c with
        | false => simp
        | true =>
          have : isFor (k : Int) c = false := by
            simp only [isFor, beq_iff_eq, beq_eq_false_iff_ne, ne_eq] at e ⊢
            omega
          simp [this]
end Go.Proofs.Ytfpiiehdmdmoeaa
