/-
  Plain laws of a network: without fates a packet arrives at once; with a delay it arrives when it is due.
-/
import Derived.Test.YtfpiiehdmdmoeaaPureC
namespace Go.Proofs.Ytfpiiehdmdmoeaa

theorem St.step_now {s : St} (hc : s.net.fates = []) (hlen : s.net.queues.length = s.got.length) (h : s.Soon 0) (o : Opn) : (s.step [] o).Soon 0 ∧ (s.step [] o).net.fates = [] := by
  rcases step_roads [] s o hlen with ⟨_, hz, e⟩ | ⟨_, _, e⟩ | ⟨_, hh, e⟩ | ⟨_, _, e⟩ | ⟨_, _, e⟩ <;> rw [e]
  · obtain ⟨hs, _, e2⟩ := send_zero hz
    rw [e2, hc]
    simp only [okSend, Bool.and_eq_true] at hs
    have hd := house_lt hs.1.2
    refine ⟨fun q hq f hf => ?_, rfl⟩
    simp only at hq ⊢
    rcases List.mem_or_eq_of_mem_set hq with hq | hq
    · exact h q hq f hf
    · subst hq
      rcases mem_ins hf with hf | rfl
      · exact h _ (getD_mem hd) f hf
      · simp [one]
  · exact ⟨h, hc⟩
  · have e2 := recv_zero (n := s.net) (x := o.house) (by rw [hlen]; exact hh)
    have hl := house_lt hh
    rw [e2]
    refine ⟨fun q hq f hf => ?_, hc⟩
    simp only at hq ⊢
    rcases List.mem_or_eq_of_mem_set hq with hq | hq
    · exact h q hq f hf
    · subst hq
      exact h _ (getD_mem (by omega)) f ((List.dropWhile_sublist _).subset hf)
  · exact ⟨h, hc⟩
  · refine ⟨fun q hq f hf => ?_, hc⟩
    have := h q hq f hf
    simp only [Net.step] at *
    omega
theorem St.run_now : ∀ (l : List Opn) {s : St} {k : Nat}, s.Inv k → s.net.fates = [] → s.Soon 0 → k + l.length ≤ 100000 → (s.run [] l).Soon 0 ∧ (s.run [] l).net.fates = []
  | [], _, _, _, hc, h, _ => ⟨h, hc⟩
  | o :: l, s, k, hi, hc, h, hk => by
    simp only [List.length_cons] at hk
    have := St.step_now hc hi.len h o
    exact St.run_now l (St.step_inv (by simp) hi (by omega) o) this.2 this.1 (by omega)

theorem split_all {t : Int} {q : List Flight} (h : ∀ f ∈ q, f.due ≤ t) : q.takeWhile (fun f => decide (f.due ≤ t)) = q ∧ q.dropWhile (fun f => decide (f.due ≤ t)) = [] := by
  induction q with
  | nil => exact ⟨rfl, rfl⟩
  | cons a q ih =>
    have ha := h a (by simp)
    have := ih (fun f hf => h f (by simp [hf]))
    simp [ha, this.1, this.2]

/-- Without fates: what is sent to house 1 is the last that house 1 receives. -/
theorem delay_first {n : Nat} (h2 : 2 ≤ n) (h12 : n ≤ 12) (l : List Opn) (hl : l.length ≤ 200) (body : ByteArray) {s : St} (hs : s = (St.start (Net.new n []) n).run [] l) :
    ∃ N1 N2 ps, s.net.send ⟨0, 1, body⟩ = (N1, 0) ∧ N1.Ok ∧ N1.recv 1 = (N2, ps ++ [⟨0, 1, body⟩], 0) ∧ ps.length ≤ 4000 := by
  have hi0 := St.start_inv (fates := []) (by simp) (show 1 ≤ n by omega) h12
  have hinv := St.run_inv (fates := []) (by simp) l hi0 (by omega)
  have hcon := St.run_con (fates := []) (by simp) l hi0 (St.start_con [] n) (by omega)
  have hs0 : (St.start (Net.new n []) n).Soon 0 := fun q hq f hff => by
    have := List.eq_of_mem_replicate (show q ∈ List.replicate n [] from hq)
    subst this
    cases hff
  obtain ⟨hsoon, hfates⟩ := St.run_now l hi0 rfl hs0 (by omega)
  have hgl : ((St.start (Net.new n []) n).run [] l).got.length = n := by rw [St.run_len]; simp [St.start]
  rw [← hs] at hinv hcon hsoon hfates hgl
  have hq : s.net.queues.length = n := by rw [hinv.len, hgl]
  have hsent := hinv.sent
  have hsum := hcon.sum
  have hok : okSend s.net.queues.length ⟨0, 1, body⟩ = true := by
    rw [hq]
    have h1 : okHouse n 0 = true := by simp [okHouse]; omega
    have h3 : okHouse n 1 = true := by simp [okHouse]; omega
    simp [okSend, h1, h3]
  have e := send_eq s.net ⟨0, 1, body⟩ hok one (by rw [hfates]; rfl) 1 rfl (by omega)
  have hN1 := Net.send_ok hinv.ok ⟨0, 1, body⟩
  rw [e] at hN1
  have hqs : ∀ f ∈ s.net.queues.getD 1 [], f.due ≤ (s.net.time : Int) := fun f hf => by
    have := hsoon _ (getD_mem (by omega)) f hf
    simpa using this
  have hqs' : ∀ f ∈ s.net.queues.getD 1 [], f.due ≤ (s.net.time : Int) + one.delay := fun f hf => by
    have := hqs f hf
    simp [one]; exact this
  have hlq : (s.net.queues.getD 1 []).length ≤ 4000 := by
    have h1 := len_le_total (getD_mem (show 1 < s.net.queues.length by omega))
    have h3 := hinv.ok.wait
    have h4 := hinv.ok.low
    omega
  have hins : ins (s.net.queues.getD 1 []) ⟨⟨0, 1, body⟩, s.net.time + one.delay⟩ 1 = s.net.queues.getD 1 [] ++ [⟨⟨0, 1, body⟩, s.net.time⟩] := by
    unfold ins
    simp only
    rw [(split_all hqs').1, (split_all hqs').2]
    simp [one]
  obtain ⟨N1, hN1e⟩ : ∃ N1, N1 = (s.net.send ⟨0, 1, body⟩).1 := ⟨_, rfl⟩
  suffices hrec : (N1.recv 1).2 = ((s.net.queues.getD 1 []).map (·.p) ++ [⟨0, 1, body⟩], 0) by
    refine ⟨N1, (N1.recv 1).1, (s.net.queues.getD 1 []).map (·.p), by rw [hN1e, e], by rw [hN1e, e]; exact hN1, by rw [← hrec], by simpa using hlq⟩
  rw [hN1e, e]
  rw [recv_zero (by simp only [List.length_set]; rw [hq]; simp [okHouse]; omega)]
  have h1 : (Int.toNat (1 : Int)) = 1 := rfl
  simp only [h1]
  rw [hins, getD_set_eq _ _ _ (by omega)]
  have hall : ∀ f ∈ s.net.queues.getD 1 [] ++ [⟨⟨0, 1, body⟩, (s.net.time : Int)⟩], f.due ≤ (s.net.time : Int) := fun f hf => by
    rcases List.mem_append.1 hf with hf | hf
    · exact hqs f hf
    · simp at hf; subst hf; simp
  have harr : arrived s.net.time (s.net.queues.getD 1 [] ++ [⟨⟨0, 1, body⟩, (s.net.time : Int)⟩]) = s.net.queues.getD 1 [] ++ [⟨⟨0, 1, body⟩, (s.net.time : Int)⟩] := (split_all hall).1
  rw [harr, List.map_append]
  rfl

/-- The network with one packet on its way to house 1. -/
def Mi (n : Nat) (body : ByteArray) (d : Int) (i : Nat) : Net := ⟨[], i, 1, (List.replicate n []).set 1 [⟨⟨0, 1, body⟩, d⟩]⟩

theorem mi_send {n : Nat} (h2 : 2 ≤ n) (body : ByteArray) (d : Int) : (Net.new n [⟨false, 1, d⟩]).send ⟨0, 1, body⟩ = (Mi n body d 0, 0) := by
  have hok : okSend (Net.new n [⟨false, 1, d⟩]).queues.length ⟨0, 1, body⟩ = true := by
    have h1 : okHouse n 0 = true := by simp [okHouse]; omega
    have h3 : okHouse n 1 = true := by simp [okHouse]; omega
    simp [okSend, Net.new, h1, h3]
  rw [send_eq _ _ hok ⟨false, 1, d⟩ rfl 1 rfl (by simp [Net.new])]
  have hg : (List.replicate n ([] : List Flight)).getD 1 [] = [] := by
    rw [List.getD_eq_getElem?_getD, List.getElem?_replicate]
    split <;> rfl
  simp only [Net.new, Mi]
  rw [show Int.toNat (1 : Int) = 1 from rfl, hg]
  simp [ins]
theorem mi_ok {n : Nat} (h2 : 2 ≤ n) (h12 : n ≤ 12) (body : ByteArray) {d : Int} (hd : 0 ≤ d ∧ d ≤ 100) : ∀ i, i ≤ 100 → (Mi n body d i).Ok
  | 0, _ => by
    have := Net.send_ok (Net.new_ok (show 1 ≤ n by omega) h12 (fs := [⟨false, 1, d⟩]) (by simp [Fate.ok]; omega)) ⟨0, 1, body⟩
    rw [mi_send h2] at this
    exact this
  | i + 1, hi => Net.step_ok (mi_ok h2 h12 body hd i (by omega)) (by simp only [Mi]; omega)
theorem mi_house {n : Nat} (h2 : 2 ≤ n) (body : ByteArray) (d : Int) (i : Nat) : okHouse (Mi n body d i).queues.length 1 = true := by simp [okHouse, Mi]; omega
theorem mi_queue {n : Nat} (h2 : 2 ≤ n) (body : ByteArray) (d : Int) (i : Nat) : (Mi n body d i).queues.getD (Int.toNat 1) [] = [⟨⟨0, 1, body⟩, d⟩] := getD_set_eq _ 1 _ (by simp; omega)
theorem alone (p : Pkt) {d : Int} {t : Nat} (h : (t : Int) < d) : arrived t [⟨p, d⟩] = [] ∧ onWay t [⟨p, d⟩] = [⟨p, d⟩] := by
  unfold arrived onWay
  rw [List.takeWhile_cons, List.dropWhile_cons, if_neg (by simpa using h), if_neg (by simpa using h)]
  exact ⟨rfl, rfl⟩
theorem mi_early {n : Nat} (h2 : 2 ≤ n) (body : ByteArray) {d : Int} {i : Nat} (hi : (i : Int) < d) : (Mi n body d i).recv 1 = (Mi n body d i, [], 0) := by
  rw [recv_zero (mi_house h2 body d i), mi_queue h2]
  have h1 : arrived (Mi n body d i).time [⟨⟨0, 1, body⟩, d⟩] = [] := (alone _ hi).1
  have h3 : onWay (Mi n body d i).time [⟨⟨0, 1, body⟩, d⟩] = [⟨⟨0, 1, body⟩, d⟩] := (alone _ hi).2
  rw [h1, h3]
  simp [Mi]
theorem mi_late {n : Nat} (h2 : 2 ≤ n) (body : ByteArray) (i : Nat) : ∃ N, (Mi n body i i).recv 1 = (N, [⟨0, 1, body⟩], 0) := by
  suffices h : ((Mi n body i i).recv 1).2 = ([⟨0, 1, body⟩], 0) by exact ⟨((Mi n body i i).recv 1).1, by rw [← h]⟩
  rw [recv_zero (mi_house h2 body i i), mi_queue h2]
  have h1 : arrived (Mi n body i i).time [⟨⟨0, 1, body⟩, (i : Int)⟩] = [⟨⟨0, 1, body⟩, (i : Int)⟩] := by simp [arrived, Mi]
  rw [h1]
  rfl
end Go.Proofs.Ytfpiiehdmdmoeaa
