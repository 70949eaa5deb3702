/-
  Plain laws of a network: in the end everything is received.
-/
import Derived.Test.YtfpiiehdmdmoeaaPureB
namespace Go.Proofs.Ytfpiiehdmdmoeaa

def zeroPkt : Pkt := ⟨0, 0, ByteArray.empty⟩
def stepOp : Opn := ⟨2, 0, zeroPkt⟩
def recvOp (h : Nat) : Opn := ⟨1, h, zeroPkt⟩
def moreOps (l : List Opn) (houses : Nat) : List Opn := l ++ List.replicate 100 stepOp ++ (List.range houses).map recvOp

theorem St.run_append (fates : List Fate) (s : St) (a b : List Opn) : s.run fates (a ++ b) = (s.run fates a).run fates b := by simp [St.run]

/-- All flights are due within 100 steps. -/
def St.Soon (s : St) (k : Nat) : Prop := ∀ q ∈ s.net.queues, ∀ f ∈ q, f.due ≤ s.net.time + k

theorem delay_le {f : Fate} (h : f.ok = true) (hl : 0 < f.many) : f.delay ≤ 100 := by
  unfold Fate.ok at h
  unfold Fate.many at hl
  cases e : f.lost with
  | true => rw [e] at hl; simp at hl
  | false =>
    rw [e] at h
    simp at h
    omega

theorem St.step_soon {fates : List Fate} {s : St} (hok : s.net.Ok) (hlen : s.net.queues.length = s.got.length) (h : s.Soon 100) (o : Opn) : (s.step fates o).Soon 100 := by
  rcases step_roads fates s o hlen with ⟨_, hz, e⟩ | ⟨_, _, e⟩ | ⟨_, hh, e⟩ | ⟨_, _, e⟩ | ⟨_, _, e⟩ <;> rw [e]
  · obtain ⟨hs, _, e2⟩ := send_zero hz
    rw [e2]
    simp only [okSend, Bool.and_eq_true] at hs
    have hd := house_lt hs.1.2
    intro q hq f hf
    simp only at hq ⊢
    rcases List.mem_or_eq_of_mem_set hq with hq | hq
    · exact h q hq f hf
    · subst hq
      rcases Nat.eq_zero_or_pos (s.net.fates.headD one).many with hm | hm
      · rw [hm] at hf
        unfold ins at hf
        rw [List.replicate_zero, List.append_nil, List.takeWhile_append_dropWhile] at hf
        exact h _ (getD_mem hd) f hf
      · rcases mem_ins hf with hf | rfl
        · exact h _ (getD_mem hd) f hf
        · have := delay_le (headD_ok hok.fates) hm
          simp only
          omega
  · exact h
  · have e2 := recv_zero (n := s.net) (x := o.house) (by rw [hlen]; exact hh)
    have hl := house_lt hh
    rw [e2]
    intro q hq f hf
    simp only at hq ⊢
    rcases List.mem_or_eq_of_mem_set hq with hq | hq
    · exact h q hq f hf
    · subst hq
      exact h _ (getD_mem (by omega)) f ((List.dropWhile_sublist _).subset hf)
  · exact h
  · intro q hq f hf
    have := h q hq f hf
    simp only [Net.step] at *
    omega
theorem St.run_soon {fates : List Fate} (hf : ∀ f ∈ fates, f.ok = true) : ∀ (l : List Opn) {s : St} {k : Nat}, s.Inv k → s.Soon 100 → k + l.length ≤ 100000 → (s.run fates l).Soon 100
  | [], _, _, _, h, _ => h
  | o :: l, s, k, hi, h, hk => by
    simp only [List.length_cons] at hk
    exact St.run_soon hf l (St.step_inv hf hi (by omega) o) (St.step_soon hi.ok hi.len h o) (by omega)

theorem run_steps (fates : List Fate) : ∀ (c : Nat) (s : St), (s.run fates (List.replicate c stepOp)) = ⟨⟨s.net.fates, s.net.time + c, s.net.waiting, s.net.queues⟩, s.used, s.sent, s.got⟩
  | 0, _ => rfl
  | c + 1, s => by
    have e : s.run fates (List.replicate (c + 1) stepOp) = (s.step fates stepOp).run fates (List.replicate c stepOp) := by simp [St.run, List.replicate_succ]
    rw [e, run_steps fates c]
    have e2 : s.step fates stepOp = ⟨s.net.step, s.used, s.sent, s.got⟩ := by simp [St.step, stepOp]
    rw [e2]
    simp only [Net.step]
    rw [show s.net.time + 1 + c = s.net.time + (c + 1) by omega]

theorem onWay_nil {t : Nat} {q : List Flight} (h : ∀ f ∈ q, f.due ≤ t) : onWay t q = [] := by
  unfold onWay
  induction q with
  | nil => rfl
  | cons a q ih =>
    have ha := h a (by simp)
    rw [List.dropWhile_cons, if_pos (by simpa using ha)]
    exact ih (fun f hf => h f (by simp [hf]))

/-- Where everything is due, the houses that have received have nothing more on its way. -/
theorem run_recvs (fates : List Fate) : ∀ (c : Nat) (s : St), c ≤ s.got.length → s.net.queues.length = s.got.length → s.Soon 0 →
    (s.run fates ((List.range c).map recvOp)).net.queues.length = s.got.length ∧ (s.run fates ((List.range c).map recvOp)).got.length = s.got.length ∧ (s.run fates ((List.range c).map recvOp)).Soon 0 ∧
      ∀ i, i < c → (s.run fates ((List.range c).map recvOp)).net.queues.getD i [] = []
  | 0, s, _, hl, h => ⟨hl, rfl, h, fun i hi => by omega⟩
  | c + 1, s, hc, hl, h => by
    obtain ⟨h1, h2, h3, h4⟩ := run_recvs fates c s (by omega) hl h
    have e : s.run fates ((List.range (c + 1)).map recvOp) = (s.run fates ((List.range c).map recvOp)).step fates (recvOp c) := by
      rw [List.range_succ, List.map_append]
      exact St.run_snoc fates s _ (recvOp c)
    rw [e]
    generalize s.run fates ((List.range c).map recvOp) = s2 at *
    have hcl : c < s2.got.length := by omega
    have hh : okHouse s2.got.length (recvOp c).house = true := by simp [okHouse, recvOp, hcl]
    have e2 : s2.step fates (recvOp c) = ⟨(s2.net.recv c).1, s2.used, s2.sent, s2.got.set c (s2.got.getD c [] ++ (s2.net.recv c).2.1)⟩ := by
      rcases step_roads fates s2 (recvOp c) (by omega) with ⟨hk, _⟩ | ⟨hk, _⟩ | ⟨_, _, e⟩ | ⟨_, hb, _⟩ | ⟨_, hk, _⟩
      · simp [recvOp] at hk
      · simp [recvOp] at hk
      · rw [e]; simp [recvOp]
      · rw [hh] at hb; cases hb
      · exact absurd rfl hk
    have e3 := recv_zero (n := s2.net) (x := (c : Int)) (by simp [okHouse]; omega)
    simp only [Int.toNat_natCast] at e3
    have hn : onWay s2.net.time (s2.net.queues.getD c []) = [] := onWay_nil (fun f hf => by
      have := h3 _ (getD_mem (by omega)) f hf
      simpa using this)
    rw [e2, e3, hn]
    refine ⟨by simpa using h1, by simpa using h2, fun q hq f hf => ?_, fun i hi => ?_⟩
    · simp only at hq ⊢
      rcases List.mem_or_eq_of_mem_set hq with hq | hq
      · exact h3 q hq f hf
      · subst hq; cases hf
    · simp only
      by_cases hic : c = i
      · subst hic
        rw [getD_set_eq _ _ _ (by omega)]
      · rw [getD_set_ne _ _ _ _ hic]
        exact h4 i (by omega)

theorem total_of_nil {qs : List (List Flight)} (h : ∀ i, i < qs.length → qs.getD i [] = []) : total qs = 0 := by
  induction qs with
  | nil => rfl
  | cons a qs ih =>
    have h0 := h 0 (by simp)
    have h1 := ih (fun i hi => by simpa using h (i + 1) (by simpa using hi))
    simp at h0
    subst h0
    simp only [total, List.map_cons, List.sum_cons, List.length_nil] at h1 ⊢
    omega

/-- After 100 more steps and a Receive of every house: nothing is on its way; each packet was received as often as it was sent. -/
theorem ends {fates : List Fate} (hf : ∀ f ∈ fates, f.ok = true) {h : Nat} (h1 : 1 ≤ h) (h2 : h ≤ 12) (l : List Opn) (hl : l.length ≤ 200) {s : St} (hs : s = (St.start (Net.new h fates) h).run fates (moreOps l h)) :
    s.net.waiting = 0 ∧ sumLen s.got = s.sent.length ∧ ∀ p ∈ s.sent, okHouse h p.dst = true ∧ count (s.got.getD p.dst.toNat []) p = count s.sent p := by
  have hlen : (moreOps l h).length ≤ 1000 := by simp [moreOps]; omega
  have hi0 := St.start_inv hf h1 h2
  have hinv := St.run_inv hf (moreOps l h) hi0 (by omega)
  have hcon := St.run_con hf (moreOps l h) hi0 (St.start_con fates h) (by omega)
  have htos := played_tos hf h1 h2 (moreOps l h) hlen
  have hgl : ((St.start (Net.new h fates) h).run fates (moreOps l h)).got.length = h := by rw [St.run_len]; simp [St.start]
  rw [← hs] at hinv hcon htos hgl
  have hs0 : (St.start (Net.new h fates) h).Soon 100 := fun q hq f hff => by
    have := List.eq_of_mem_replicate (show q ∈ List.replicate h [] from hq)
    subst this
    cases hff
  have hsoon := St.run_soon hf l hi0 hs0 (by omega)
  have hinv1 := St.run_inv hf l hi0 (by omega)
  have hgl1 : ((St.start (Net.new h fates) h).run fates l).got.length = h := by rw [St.run_len]; simp [St.start]
  unfold moreOps at hs
  rw [St.run_append, St.run_append, run_steps] at hs
  generalize (St.start (Net.new h fates) h).run fates l = s1 at *
  obtain ⟨a1, a2, a3, a4⟩ := run_recvs fates h ⟨⟨s1.net.fates, s1.net.time + 100, s1.net.waiting, s1.net.queues⟩, s1.used, s1.sent, s1.got⟩ (by simp only; omega) (by simpa using hinv1.len) (fun q hq f hff => by
    have := hsoon q hq f hff
    simp only at *
    omega)
  rw [← hs] at a1 a2 a3 a4
  simp only at a1 a2
  have hw : s.net.waiting = 0 := by
    rw [hinv.ok.wait]
    exact total_of_nil (fun i hi => a4 i (by omega))
  refine ⟨hw, by have := hcon.sum; omega, fun p hp => ?_⟩
  have hd := htos.sentTo p hp
  rw [hgl] at hd
  have hdl := house_lt hd
  obtain ⟨d0, d1⟩ := okHouse_yes hd
  have hm := htos.many p.dst.toNat (by omega) p
  rw [a4 _ hdl, if_pos (by omega)] at hm
  refine ⟨hd, ?_⟩
  simpa [pk, count] using hm
end Go.Proofs.Ytfpiiehdmdmoeaa
