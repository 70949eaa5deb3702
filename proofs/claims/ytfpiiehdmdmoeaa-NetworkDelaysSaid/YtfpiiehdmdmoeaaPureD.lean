/-
  Plain laws of a network: one house alone; further fates; no fates; one delay.
-/
import Derived.Test.YtfpiiehdmdmoeaaPureC
namespace Go.Proofs.Ytfpiiehdmdmoeaa

theorem waiting_le {fates : List Fate} {s : St} {k : Nat} (hi : s.Inv k) (hc : s.Con fates) : s.net.waiting ≤ 9 * k := by
  have := hc.sum
  have := hi.sent
  omega
theorem headD_many {s : St} (hok : s.net.Ok) : (s.net.fates.headD one).many ≤ 9 := Fate.many_le (headD_ok hok.fates)

/-- Where there is room, a Send fails by its houses alone. -/
theorem send_room {n : Net} {p : Pkt} (h : n.waiting + (n.fates.headD one).many ≤ 4000) : ((n.send p).2 = 0 ↔ okSend n.queues.length p = true) := by
  constructor
  · intro hz
    exact (send_zero hz).1
  · intro hs
    rw [send_eq n p hs _ rfl _ rfl h]

/-- Two plays that are the same for the house h. -/
structure Same (h : Nat) (s t : St) : Prop where
  time : s.net.time = t.net.time
  fates : s.net.fates = t.net.fates
  used : s.used = t.used
  sent : s.sent = t.sent
  len : s.got.length = t.got.length
  queue : s.net.queues.getD h [] = t.net.queues.getD h []
  got : s.got.getD h [] = t.got.getD h []

def keepB (h : Nat) (o : Opn) : Bool := (o.kind != 1) || (o.house == (h : Int))

theorem same_step {fates : List Fate} {h : Nat} {s t : St} {k k' : Nat} (hs : s.Inv k) (ht : t.Inv k') (cs : s.Con fates) (ct : t.Con fates) (hk : k ≤ 300) (hk' : k' ≤ 300) (hh : h < s.got.length) (r : Same h s t) (o : Opn) (hkeep : keepB h o = true) :
    Same h (s.step fates o) (t.step fates o) := by
  have ws := waiting_le hs cs
  have wt := waiting_le ht ct
  have ms := headD_many hs.ok
  have mt := headD_many ht.ok
  have rs := send_room (n := s.net) (p := o.p) (by omega)
  have rt := send_room (n := t.net) (p := o.p) (by omega)
  have hls := hs.len
  have hlt := ht.len
  have hl := r.len
  rw [hls] at rs
  rw [hlt, ← hl] at rt
  have hst : (s.net.send o.p).2 = 0 ↔ (t.net.send o.p).2 = 0 := rs.trans rt.symm
  rcases step_roads fates s o hls with ⟨h0, hz, e⟩ | ⟨h0, hz, e⟩ | ⟨h1, ho, e⟩ | ⟨h1, ho, e⟩ | ⟨h0, h1, e⟩ <;>
    rcases step_roads fates t o hlt with ⟨g0, gz, e'⟩ | ⟨g0, gz, e'⟩ | ⟨g1, go, e'⟩ | ⟨g1, go, e'⟩ | ⟨g0, g1, e'⟩ <;>
    first
      | (exfalso; rw [h0] at g1; simp at g1; done)
      | (exfalso; rw [h1] at g0; simp at g0; done)
      | (exfalso; exact g0 h0)
      | (exfalso; exact g1 h1)
      | (exfalso; exact h0 g0)
      | (exfalso; exact h1 g1)
      | (exfalso; exact gz (hst.1 hz))
      | (exfalso; exact hz (hst.2 gz))
      | (exfalso; rw [← hl, ho] at go; cases go; done)
      | skip
  · obtain ⟨hok, _, e2⟩ := send_zero hz
    obtain ⟨_, _, e3⟩ := send_zero gz
    simp only [okSend, Bool.and_eq_true] at hok
    have hd := house_lt hok.1.2
    rw [e, e', e2, e3]
    refine ⟨r.time, by simp only [r.fates], by simp only [r.used], by simp only [r.sent, r.used], hl, ?_, r.got⟩
    simp only [r.fates, r.time]
    by_cases hne : o.p.dst.toNat = h
    · subst hne
      rw [getD_set_eq _ _ _ hd, getD_set_eq _ _ _ (by omega), r.queue]
    · rw [getD_set_ne _ _ _ _ hne, getD_set_ne _ _ _ _ hne]
      exact r.queue
  · rw [e, e']; exact r
  · have e2 := recv_zero (n := s.net) (x := o.house) (by rw [hls]; exact ho)
    have e3 := recv_zero (n := t.net) (x := o.house) (by rw [hlt]; exact go)
    have hl1 := house_lt ho
    have hoh : o.house = h := by
      simp only [keepB, Bool.or_eq_true, bne_iff_ne, ne_eq, beq_iff_eq] at hkeep
      rcases hkeep with h3 | h3
      · exact absurd h1 h3
      · exact h3
    have hoh' : o.house.toNat = h := by omega
    rw [e, e', e2, e3, hoh']
    refine ⟨r.time, r.fates, r.used, r.sent, by simpa using hl, ?_, ?_⟩
    · simp only
      rw [getD_set_eq _ _ _ (by omega), getD_set_eq _ _ _ (by omega), r.time, r.queue]
    · simp only
      rw [getD_set_eq _ _ _ (by omega), getD_set_eq _ _ _ (by omega), r.time, r.queue, r.got]
  · rw [e, e']; exact r
  · rw [e, e']
    exact ⟨by simp only [Net.step, r.time], r.fates, r.used, r.sent, hl, r.queue, r.got⟩

theorem same_skip {fates : List Fate} {h : Nat} {s t : St} {k : Nat} (hs : s.Inv k) (r : Same h s t) (o : Opn) (hkeep : keepB h o = false) : Same h (s.step fates o) t := by
  simp only [keepB, Bool.or_eq_false_iff, bne_eq_false_iff_eq, beq_eq_false_iff_ne, ne_eq] at hkeep
  obtain ⟨hk1, hk2⟩ := hkeep
  have hls := hs.len
  rcases step_roads fates s o hls with ⟨h0, _⟩ | ⟨h0, _⟩ | ⟨_, ho, e⟩ | ⟨_, _, e⟩ | ⟨_, h1, _⟩
  · rw [hk1] at h0; simp at h0
  · rw [hk1] at h0; simp at h0
  · have e2 := recv_zero (n := s.net) (x := o.house) (by rw [hls]; exact ho)
    obtain ⟨o0, o1⟩ := okHouse_yes ho
    have hne : o.house.toNat ≠ h := fun hc => hk2 (by omega)
    rw [e, e2]
    refine ⟨r.time, r.fates, r.used, r.sent, by simpa using r.len, ?_, ?_⟩
    · simp only
      rw [getD_set_ne _ _ _ _ hne]
      exact r.queue
    · simp only
      rw [getD_set_ne _ _ _ _ hne]
      exact r.got
  · rw [e]; exact r
  · exact absurd hk1 h1

theorem same_run {fates : List Fate} (hf : ∀ f ∈ fates, f.ok = true) {h : Nat} : ∀ (l : List Opn) {s t : St} {k k' : Nat}, s.Inv k → t.Inv k' → s.Con fates → t.Con fates → k + l.length ≤ 300 → k' + l.length ≤ 300 → h < s.got.length → Same h s t →
    Same h (s.run fates l) (t.run fates (l.filter (keepB h)))
  | [], _, _, _, _, _, _, _, _, _, _, _, r => r
  | o :: l, s, t, k, k', hs, ht, cs, ct, hk, hk', hh, r => by
    simp only [List.length_cons] at hk hk'
    have hs1 := St.step_inv hf hs (by omega) o
    have cs1 := St.step_con cs hs.ok hs.len o
    have hg : (s.step fates o).got.length = s.got.length := St.step_len fates s o
    cases hkp : keepB h o with
    | true =>
      rw [List.filter_cons_of_pos hkp]
      exact same_run hf l hs1 (St.step_inv hf ht (by omega) o) cs1 (St.step_con ct ht.ok ht.len o) (by omega) (by omega) (by omega) (same_step hs ht cs ct (by omega) (by omega) hh r o hkp)
    | false =>
      rw [List.filter_cons_of_neg (by rw [hkp]; decide)]
      exact same_run hf l hs1 ht cs1 ct (by omega) (by omega) (by omega) (same_skip hs r o hkp)

theorem houses_same {fates : List Fate} (hf : ∀ f ∈ fates, f.ok = true) {n : Nat} (h1 : 1 ≤ n) (h2 : n ≤ 12) (l : List Opn) (hl : l.length ≤ 200) {h : Nat} (hh : h < n) :
    ((St.start (Net.new n fates) n).run fates l).got.getD h [] = ((St.start (Net.new n fates) n).run fates (l.filter (keepB h))).got.getD h [] ∧
      ((St.start (Net.new n fates) n).run fates l).sent = ((St.start (Net.new n fates) n).run fates (l.filter (keepB h))).sent := by
  have hi := St.start_inv hf h1 h2
  have hc := St.start_con fates n
  have r := same_run hf (h := h) l hi hi hc hc (by omega) (by omega) (by simpa [St.start] using hh) ⟨rfl, rfl, rfl, rfl, rfl, rfl, rfl⟩
  exact ⟨r.got, r.sent⟩

/-- Two networks whose next r fates are the same. -/
structure Alike (r : Nat) (s t : St) : Prop where
  time : s.net.time = t.net.time
  waiting : s.net.waiting = t.net.waiting
  queues : s.net.queues = t.net.queues
  got : s.got = t.got
  fates : ∀ i, i < r → s.net.fates.getD i one = t.net.fates.getD i one

theorem Alike.less {r r' : Nat} {s t : St} (h : Alike r s t) (hr : r' ≤ r) : Alike r' s t := ⟨h.time, h.waiting, h.queues, h.got, fun i hi => h.fates i (by omega)⟩

theorem headD_getD (l : List Fate) : l.headD one = l.getD 0 one := by cases l <;> rfl
theorem tail_getD (l : List Fate) (i : Nat) : l.tail.getD i one = l.getD (i + 1) one := by cases l <;> simp

theorem alike_step {fa fb : List Fate} {r : Nat} {s t : St} (hs : s.net.queues.length = s.got.length) (ht : t.net.queues.length = t.got.length) (o : Opn) (h : Alike (r + (if o.kind = 0 then 1 else 0)) s t) : Alike r (s.step fa o) (t.step fb o) := by
  by_cases hk : o.kind = 0
  · rw [if_pos hk] at h
    have hh : s.net.fates.headD one = t.net.fates.headD one := by rw [headD_getD, headD_getD]; exact h.fates 0 (by omega)
    have hsend : s.net.send o.p = (⟨if (s.net.send o.p).2 = 0 then s.net.fates.tail else s.net.fates, (t.net.send o.p).1.time, (t.net.send o.p).1.waiting, (t.net.send o.p).1.queues⟩, (t.net.send o.p).2) := by
      unfold Net.send
      rw [h.queues, h.waiting, h.time, hh]
      by_cases h1 : okSend t.net.queues.length o.p = false
      · rw [if_pos h1, if_pos h1]
        simp only [if_neg (show ¬ (1 : Int) = 0 by decide)]
        rw [← h.queues, ← h.waiting, ← h.time]
      · rw [if_neg h1, if_neg h1]
        simp only
        by_cases h2 : 4000 < t.net.waiting + (t.net.fates.headD one).many
        · rw [if_pos h2, if_pos h2]
          simp only [if_neg (show ¬ (3 : Int) = 0 by decide)]
          rw [← h.queues, ← h.waiting, ← h.time]
        · rw [if_neg h2, if_neg h2]
          simp only [if_true]
    have he : (s.net.send o.p).2 = (t.net.send o.p).2 := by rw [hsend]
    rcases step_roads fa s o hs with ⟨_, hz, e⟩ | ⟨_, hz, e⟩ | ⟨h1, _⟩ | ⟨h1, _⟩ | ⟨h0, _⟩
    · rcases step_roads fb t o ht with ⟨_, gz, e'⟩ | ⟨_, gz, e'⟩ | ⟨h1, _⟩ | ⟨h1, _⟩ | ⟨h0, _⟩
      · obtain ⟨_, _, e2⟩ := send_zero hz
        obtain ⟨_, _, e3⟩ := send_zero gz
        rw [e, e', e2, e3]
        refine ⟨h.time, ?_, ?_, h.got, fun i hi => ?_⟩
        · simp only [h.waiting, hh]
        · simp only [h.queues, h.time, hh]
        · simp only [tail_getD]
          exact h.fates (i + 1) (by omega)
      · exact absurd (he ▸ hz) gz
      · rw [hk] at h1; simp at h1
      · rw [hk] at h1; simp at h1
      · exact absurd hk h0
    · rcases step_roads fb t o ht with ⟨_, gz, e'⟩ | ⟨_, gz, e'⟩ | ⟨h1, _⟩ | ⟨h1, _⟩ | ⟨h0, _⟩
      · exact absurd (he ▸ gz) hz
      · rw [e, e']; exact h.less (by omega)
      · rw [hk] at h1; simp at h1
      · rw [hk] at h1; simp at h1
      · exact absurd hk h0
    · rw [hk] at h1; simp at h1
    · rw [hk] at h1; simp at h1
    · exact absurd hk h0
  · rw [if_neg hk, Nat.add_zero] at h
    rcases step_roads fa s o hs with ⟨h0, _⟩ | ⟨h0, _⟩ | ⟨h1, ho, e⟩ | ⟨h1, ho, e⟩ | ⟨_, h1, e⟩
    · exact absurd h0 hk
    · exact absurd h0 hk
    · rcases step_roads fb t o ht with ⟨h0, _⟩ | ⟨h0, _⟩ | ⟨_, go, e'⟩ | ⟨_, go, _⟩ | ⟨_, g1, _⟩
      · exact absurd h0 hk
      · exact absurd h0 hk
      · have e2 := recv_zero (n := s.net) (x := o.house) (by rw [hs]; exact ho)
        have e3 := recv_zero (n := t.net) (x := o.house) (by rw [ht]; exact go)
        rw [e, e', e2, e3]
        exact ⟨h.time, by simp only [h.waiting, h.time, h.queues], by simp only [h.time, h.queues], by simp only [h.time, h.queues, h.got], h.fates⟩
      · rw [← h.got, ho] at go; cases go
      · exact absurd h1 g1
    · rcases step_roads fb t o ht with ⟨h0, _⟩ | ⟨h0, _⟩ | ⟨_, go, _⟩ | ⟨_, go, e'⟩ | ⟨_, g1, _⟩
      · exact absurd h0 hk
      · exact absurd h0 hk
      · rw [← h.got, ho] at go; cases go
      · rw [e, e']; exact h
      · exact absurd h1 g1
    · rcases step_roads fb t o ht with ⟨h0, _⟩ | ⟨h0, _⟩ | ⟨g1, _⟩ | ⟨g1, _⟩ | ⟨_, _, e'⟩
      · exact absurd h0 hk
      · exact absurd h0 hk
      · exact absurd g1 h1
      · exact absurd g1 h1
      · rw [e, e']
        exact ⟨by simp only [Net.step, h.time], h.waiting, h.queues, h.got, h.fates⟩

def sendsOf (l : List Opn) : Nat := (l.filter (fun o => o.kind == 0)).length
theorem sendsOf_cons (o : Opn) (l : List Opn) : sendsOf (o :: l) = sendsOf l + (if o.kind = 0 then 1 else 0) := by
  unfold sendsOf
  by_cases h : o.kind = 0 <;> simp [h]

theorem step_lens {fates : List Fate} {s : St} (h : s.net.queues.length = s.got.length) (o : Opn) : (s.step fates o).net.queues.length = (s.step fates o).got.length := by
  rw [St.step_len]
  rcases step_roads fates s o h with ⟨_, _, e⟩ | ⟨_, _, e⟩ | ⟨_, _, e⟩ | ⟨_, _, e⟩ | ⟨_, _, e⟩ <;> rw [e]
  · simp only [Net.send_len]; exact h
  · exact h
  · simp only [Net.recv_len]; exact h
  · exact h
  · exact h

theorem alike_run {fa fb : List Fate} : ∀ (l : List Opn) {s t : St}, s.net.queues.length = s.got.length → t.net.queues.length = t.got.length → Alike (sendsOf l) s t → Alike 0 (s.run fa l) (t.run fb l)
  | [], _, _, _, _, h => h.less (by omega)
  | o :: l, s, t, hs, ht, h => by
    rw [sendsOf_cons] at h
    exact alike_run l (step_lens hs o) (step_lens ht o) (alike_step hs ht o h)

def longFates (fates further : List Fate) (sends : Nat) : List Fate := fates ++ List.replicate (sends - fates.length) one ++ further

theorem long_getD (fates further : List Fate) (sends i : Nat) (hi : i < sends) : fates.getD i one = (longFates fates further sends).getD i one := by
  unfold longFates
  by_cases h : i < fates.length
  · simp [List.getElem?_append, h]
  · have h2 : i < (fates ++ List.replicate (sends - fates.length) one).length := by simp; omega
    simp only [List.getD_eq_getElem?_getD]
    rw [List.getElem?_append_left h2, List.getElem?_append_right (by omega), List.getElem?_replicate, if_pos (by omega), List.getElem?_eq_none (by omega)]
    rfl

theorem fates_alike {n : Nat} (fates further : List Fate) (l : List Opn) :
    Alike 0 ((St.start (Net.new n fates) n).run fates l) ((St.start (Net.new n (longFates fates further (sendsOf l))) n).run (longFates fates further (sendsOf l)) l) :=
  alike_run l (by simp [St.start, Net.new]) (by simp [St.start, Net.new]) ⟨rfl, rfl, rfl, rfl, fun i hi => long_getD fates further _ i hi⟩

theorem long_ok {fates further : List Fate} (h1 : ∀ f ∈ fates, f.ok = true) (h2 : ∀ f ∈ further, f.ok = true) (c : Nat) : ∀ f ∈ longFates fates further c, f.ok = true := by
  intro f hf
  unfold longFates at hf
  rcases List.mem_append.1 hf with hf | hf
  · rcases List.mem_append.1 hf with hf | hf
    · exact h1 f hf
    · rw [List.eq_of_mem_replicate hf]; rfl
  · exact h2 f hf
end Go.Proofs.Ytfpiiehdmdmoeaa
