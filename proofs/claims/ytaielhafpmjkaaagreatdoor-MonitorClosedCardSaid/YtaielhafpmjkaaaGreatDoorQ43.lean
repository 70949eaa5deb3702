/-
  ClosedP; Closed
-/
import Derived.Test.YtaielhafpmjkaaaGreatDoorQ37
import Derived.Test.YtaielhafpmjkaaaGreatDoorQ42
import Derived.Test.YtaielhafpmjkaaaGreatDoorQ40
namespace Go.Proofs.YtaielhafpmjkaaaGreatDoor
open Go.RowKit
theorem getD_set_self {l : List Bool} {i : Nat} (h : i < l.length) : (l.set i true).getD i false = true := by simp [List.getD, h]
theorem getD_set_keep {l : List Bool} {i j : Nat} (h : l.getD i false = true) : (l.set j true).getD i false = true := by
 by_cases e : j = i
 · subst e
   refine getD_set_self ?_
   rcases Nat.lt_or_ge j l.length with h1 | h1
   · exact h1
   · rw [List.getD, List.getElem?_eq_none h1] at h; cases h
 · rw [List.getD, List.getElem?_set_ne e]; exact h
theorem natural_range {C : KCon} {x : Int} (h : C.natural x = true) : 0 ≤ x ∧ x.toNat < C.acts.length := by
 unfold KCon.natural KCon.actAt at h
 by_cases h0 : 0 ≤ x
 · rw [if_pos h0] at h
   refine ⟨h0, ?_⟩
   rcases Nat.lt_or_ge x.toNat C.acts.length with h1 | h1
   · exact h1
   · rw [List.getElem?_eq_none h1] at h; cases h
 · rw [if_neg h0] at h; cases h
theorem nameOne_keep {C : KCon} {ms : List KMark} {j i : Nat} {l : List Bool} (h : l.getD i false = true) : (nameOne C ms j l).getD i false = true := by
 unfold nameOne
 split
 · rename_i k m _ _
   cases m.runs with
   | false => exact h
   | true =>
    cases (k.pause == -1) with
    | false => exact getD_set_keep (getD_set_keep (getD_set_keep h))
    | true => exact getD_set_keep h
 · exact h
theorem namedTo_keep {C : KCon} {ms : List KMark} {i n : Nat} (h : (namedTo C ms n).getD i false = true) : ∀ d, (namedTo C ms (n + d)).getD i false = true
 | 0 => h
 | d + 1 => nameOne_keep (namedTo_keep h d)
theorem namedTo_has {C : KCon} {ms : List KMark} {n j : Nat} {m : KMark} {k : KClause} (hj : j < n) (hm : ms[j]? = some m) (hk : C.clauses[j]? = some k) (hr : m.runs = true) (hok : ClauseOk C j k) {i : Nat} (hi : k.act = i ∨ k.pause = i ∨ k.resume = i) : (namedTo C ms n).getD i false = true := by
 have h1 : (namedTo C ms (j + 1)).getD i false = true := by
  rw [namedTo]
  unfold nameOne
  have hl := namedTo_len C ms j
  simp only [hm, hk, hr, cond_true]
  have nat : ∀ x : Int, C.natural x = true → x.toNat < C.acts.length := fun x hx => (natural_range hx).2
  have ha := hok.act0
  have hb := hok.act1
  cases q : (k.pause == -1) with
  | true =>
   rw [beq_iff_eq] at q
   simp only [cond_true]
   rcases hi with e | e | e
   · rw [e]; exact getD_set_self (by rw [hl]; omega)
   · omega
   · have h3 := (hok.pause (.inr (by omega))).2.1
     have := (natural_range h3).1
     omega
  | false =>
   have q' : k.pause ≠ -1 := by simpa using q
   obtain ⟨_, h3, h4⟩ := hok.pause (.inl q')
   have n3 := nat _ h3
   have n4 := nat _ h4
   simp only [cond_false]
   rcases hi with e | e | e
   · rw [e]; exact getD_set_keep (getD_set_keep (getD_set_self (by rw [hl]; omega)))
   · rw [e] at n3 ⊢; exact getD_set_keep (getD_set_self (by rw [List.length_set, hl]; omega))
   · rw [e] at n4 ⊢; exact getD_set_self (by rw [List.length_set, List.length_set, hl]; omega)
 have := namedTo_keep h1 (n - (j + 1))
 rwa [show j + 1 + (n - (j + 1)) = n by omega] at this
theorem unseen {C : KCon} {s : KState} {p : Int} (hO : StateOk C s) (hp0 : 0 ≤ p) (hp1 : p < C.parties) {i : Nat} (hi : i < C.acts.length) (h : C.sees s p i = false) : (i : Int) ∈ C.hid s p ∨ C.next s i = s := by
 obtain ⟨a, ha⟩ : ∃ a, C.acts[i]? = some a := ⟨C.acts[i], List.getElem?_eq_getElem hi⟩
 have hsk : seesK s a p = false := by
  unfold KCon.sees KCon.seesAt at h
  have h1 : C.okState s = true := (okState_iff C s).2 hO
  have h2 : decide (0 ≤ p) = true := by simpa using hp0
  have h3 : decide (p < C.parties) = true := by simpa using hp1
  have h4 : decide ((0 : Int) ≤ i) = true := by simp
  have h5 : decide ((i : Int) < C.acts.length) = true := by simpa using hi
  simpa only [h1, h2, h3, h4, h5, Bool.true_and, Int.toNat_natCast, ha] using h
 have hkt : (a.kind == 1) = true ∧ (a.tgt == -1) = false := by
  unfold seesK seesB at hsk
  cases q1 : (a.kind == 1) <;> cases q2 : (a.tgt == -1) <;> simp [q1, q2] at hsk ⊢
 cases hn : (namedTo C s.marks s.marks.length).getD i false with
 | true =>
  left
  unfold KCon.hid hidTo
  refine List.mem_map.2 ⟨i, List.mem_filter.2 ⟨List.mem_range.2 hi, ?_⟩, rfl⟩
  unfold hidB
  simp only [ha, hn, hkt.1, hkt.2, h]
  rfl
 | false =>
  right
  rw [next_act ha]
  refine act_same hO (by simpa using hkt.1) (fun j m k hm hk hr => ?_)
  have hjl : j < s.marks.length := (List.getElem?_eq_some_iff.1 hm).1
  have hcl := (KCon.ok hO.con).clause hk
  have key : ∀ x : Int, (k.act = x ∨ k.pause = x ∨ k.resume = x) → x ≠ i := fun x hx e => by
   subst e
   rw [namedTo_has hjl hm hk hr hcl hx] at hn
   cases hn
  exact ⟨key _ (.inl rfl), key _ (.inr (.inl rfl)), key _ (.inr (.inr rfl))⟩
theorem IsClo.unseen {C : KCon} {p : Int} {l r : List KState} (h : IsClo C p l r) {s : KState} (hs : s ∈ r) (hd : s.day < C.days) (hp0 : 0 ≤ p) (hp1 : p < C.parties) {i : Nat} (hi : i < C.acts.length) (hn : C.sees s p i = false) : C.next s i ∈ r := by
 rcases Go.Proofs.YtaielhafpmjkaaaGreatDoor.unseen (h.ok s hs) hp0 hp1 hi hn with h1 | h1
 · exact h.closed s hs hd _ h1
 · rw [h1]; exact hs
theorem Watched.party {C : KCon} {p : Int} {l : List Int} {r : List KState} (h : Watched C p l r) : C.startOk p := by
 induction h with
 | nil h _ => exact h
 | snoc _ _ ih => exact ih
theorem Watched.some {C : KCon} {p : Int} {l : List Int} {r : List KState} (h : Watched C p l r) : r ≠ [] := by
 cases h with
 | nil _ h => exact List.ne_nil_of_mem (h.has _ (List.mem_singleton.2 rfl))
 | snoc _ h =>
  obtain ⟨s, hs⟩ := List.exists_mem_of_ne_nil _ h.2.1
  exact List.ne_nil_of_mem (h.2.2.has s hs)
end Go.Proofs.YtaielhafpmjkaaaGreatDoor
namespace Go.Proofs.YtaielhafpmjkaaaGreatDoor
open Go.RowKit Go.Shelf
theorem less_of_lt {a b : List UInt8} (h : a < b) : Op.bytesLess (⟨a.toArray⟩ : ByteArray).toList (⟨b.toArray⟩ : ByteArray).toList = true := by
 rw [bytesLess_eq, decide_eq_true_eq]
 simpa using h
theorem IsClo.less {C : KCon} {p : Int} {l r : List KState} (h : IsClo C p l r) {j : Nat} {a b : KState} (ha : r[j]? = some a) (hb : r[j + 1]? = some b) : a.text < b.text := by
 obtain ⟨h1, e1⟩ := List.getElem?_eq_some_iff.1 ha
 obtain ⟨h2, e2⟩ := List.getElem?_eq_some_iff.1 hb
 have := List.pairwise_iff_getElem.1 (List.pairwise_map.1 h.sorted) j (j + 1) h1 h2 (by omega)
 rwa [e1, e2] at this
structure EncOk (W : World) (d : Int) (hA : Option Addr) (hn hc : Nat) (uA : Option Addr) (un uc : Nat) (mA : Option Addr) (mn mc : Nat) (x : ByteArray) : Prop where
 mk ::
 ex : ∃ (s : KState) (tv : TV), d = s.day ∧ (hA = tv.h.A ∧ hn = s.holders.length ∧ hc = tv.h.c) ∧ (uA = tv.u.A ∧ un = s.used.length ∧ uc = tv.u.c) ∧ (mA = tv.m.A ∧ mn = s.marks.length ∧ mc = tv.m.c) ∧ StateAt W tv s ∧ Ranged s ∧ x = ⟨s.text.toArray⟩
theorem EncOk.calls {W : World} {d : Int} {hA : Option Addr} {hn hc : Nat} {uA : Option Addr} {un uc : Nat} {mA : Option Addr} {mn mc : Nat} {x : ByteArray} (h : EncOk W d hA hn hc uA un uc mA mn mc x) (z : Bl W) (hT : Tab z.val) : Calls Tryz.prog 20 #[.agg #[.int .i64 d, .slice hA hn hc, .slice uA un uc, .slice mA mn mc]] z.val (RetB (.string x) z.val) := by
 obtain ⟨s, tv, rfl, ⟨rfl, rfl, rfl⟩, ⟨rfl, rfl, rfl⟩, ⟨rfl, rfl, rfl⟩, h1, h2, rfl⟩ := h.ex
 exact encode_any tv s z.val (h1.below z.prop) h2 hT
set_option maxRecDepth 100000 in
set_option maxHeartbeats 4000000 in
theorem closed_walk (v : CV) (C : KCon) (p : Int) (lv : SV) (l : List Int) (w : World) (hC : ConAt w v C) (hV : At w 1 lv.A l.length lv.c (ints l)) (hT : Tab w) : Calls Tryz.prog 5 #[v.val C, .int .i64 p, .slice lv.A l.length lv.c] w (RetB (.bool true) w) := by
 obtain ⟨⟨vhA, vhc⟩, ⟨vuA, vuc⟩, ⟨vaA, vac⟩, ⟨vkA, vkc⟩, ⟨voA, voc⟩⟩ := v
 obtain ⟨lA, lc⟩ := lv
 have hax : C.acts.length ≤ 9223372036854775807 := by have h1 := hC.acts.2.2.1; have h2 := hC.acts.2.2.2; unfold maxLen at h2; omega
 have HC := Lib.hid hC; clear hC
 have HL := Lib.hid hV; clear hV
 have HT := Lib.hid hT; clear hT
 simp only [CV.val, CV.cells]
 go_enter Tryz.func5, Tryz.ntmps5
 go_upto_region 1 with (fail)
 obtain ⟨W0, HW0⟩ : ∃ W0, Hid (W0 = w.alloc (.cells #[.int .i64 C.parties, .slice vhA C.holders.length vhc, .slice vuA C.units.length vuc, .slice vaA C.acts.length vac, .slice vkA C.clauses.length vkc, .int .i64 C.days, .slice voA C.off.length voc] 27)) := ⟨_, rfl⟩
 have hh0 : W0.heap[w.heap.size]? = some (.cells #[.int .i64 C.parties, .slice vhA C.holders.length vhc, .slice vuA C.units.length vuc, .slice vaA C.acts.length vac, .slice vkA C.clauses.length vkc, .int .i64 C.days, .slice voA C.off.length voc] 27 (0, 0)) := by rw [HW0.out]; exact heap_alloc_new w (.cells #[.int .i64 C.parties, .slice vhA C.holders.length vhc, .slice vuA C.units.length vuc, .slice vaA C.acts.length vac, .slice vkA C.clauses.length vkc, .int .i64 C.days, .slice voA C.off.length voc] 27)
 have k0_0 : ∀ z : Bl W0, z.val.cell? ⟨w.heap.size, 0, none⟩ = some (.int .i64 C.parties) := fun z => z.cell ((cell_of_row W0 _ 0 _ _ _ hh0).trans rfl)
 have k0_1 : ∀ z : Bl W0, z.val.cell? ⟨w.heap.size, 1, none⟩ = some (.slice vhA C.holders.length vhc) := fun z => z.cell ((cell_of_row W0 _ 1 _ _ _ hh0).trans rfl)
 have k0_2 : ∀ z : Bl W0, z.val.cell? ⟨w.heap.size, 2, none⟩ = some (.slice vuA C.units.length vuc) := fun z => z.cell ((cell_of_row W0 _ 2 _ _ _ hh0).trans rfl)
 have k0_3 : ∀ z : Bl W0, z.val.cell? ⟨w.heap.size, 3, none⟩ = some (.slice vaA C.acts.length vac) := fun z => z.cell ((cell_of_row W0 _ 3 _ _ _ hh0).trans rfl)
 have k0_4 : ∀ z : Bl W0, z.val.cell? ⟨w.heap.size, 4, none⟩ = some (.slice vkA C.clauses.length vkc) := fun z => z.cell ((cell_of_row W0 _ 4 _ _ _ hh0).trans rfl)
 have k0_5 : ∀ z : Bl W0, z.val.cell? ⟨w.heap.size, 5, none⟩ = some (.int .i64 C.days) := fun z => z.cell ((cell_of_row W0 _ 5 _ _ _ hh0).trans rfl)
 have k0_6 : ∀ z : Bl W0, z.val.cell? ⟨w.heap.size, 6, none⟩ = some (.slice voA C.off.length voc) := fun z => z.cell ((cell_of_row W0 _ 6 _ _ _ hh0).trans rfl)
 clear hh0
 have HB : Hid (Below w.heap.size w W0) := by show Below _ _ _; rw [HW0.out]; exact Below.alloc' (Below.refl _ _) _
 rw [← HW0.out]
 change Code.wp _ _ _ _ (Bl.val (⟨W0, Below.refl _ _⟩ : Bl W0))
 generalize (⟨W0, Below.refl _ _⟩ : Bl W0) = s0
 have HH := Lib.hid (fun z : Bl W0 => head_any z.val (HT.out.below (Below.step HB.out z.prop)))
 have HFW := Lib.hid (fun z : Bl W0 => few_any (⟨⟨vhA, vhc⟩, ⟨vuA, vuc⟩, ⟨vaA, vac⟩, ⟨vkA, vkc⟩, ⟨voA, voc⟩⟩ : CV) C ⟨lA, lc⟩ l 0 ⟨none, 0⟩ [] z.val (HC.out.below (Below.step HB.out z.prop)) (HL.out.below (by omega) (Below.step HB.out z.prop)) ⟨[], rfl, at_nil _ _, fun i s t h => by simp at h⟩)
 have HWA := Lib.hid (fun z : Bl W0 => watch_any (⟨⟨vhA, vhc⟩, ⟨vuA, vuc⟩, ⟨vaA, vac⟩, ⟨vkA, vkc⟩, ⟨voA, voc⟩⟩ : CV) C p ⟨lA, lc⟩ l z.val (HC.out.below (Below.step HB.out z.prop)) (HL.out.below (by omega) (Below.step HB.out z.prop)) (HT.out.below (Below.step HB.out z.prop)))
 simp only [CV.val, CV.cells] at HFW HWA
 go_wp2_with (first | (go_at_call 11; refine (HH.out _).mono ?_; rintro e z ⟨rfl, hz⟩; obtain ⟨z, rfl⟩ := Bl.on hz; clear hz) | (go_at_call 12; refine (HFW.out _).mono ?_; rintro e z ⟨fx, rfl, hz⟩; obtain ⟨z, rfl⟩ := Bl.on hz; clear hz; refine Hid.out ?_))
 refine Lib.hid ?_
 cases fx with
 | false =>
  go_wp2
  go_ret
  exact ⟨rfl, Below.step HB.out (Bl.prop _)⟩
 | true =>
  go_wp2_with (go_at_call 18; refine (HWA.out _).mono ?_; rintro e z1 ⟨qq, A, c, r, er, rfl, hb1, hcase⟩; refine Hid.out ?_)
  refine Lib.hid ?_
  obtain ⟨zb, HZB⟩ : ∃ zb : Bl W0, Hid (Below zb.val.heap.size zb.val z1 ∧ ((er = 0 ∧ qq = p ∧ StatesN zb.val.heap.size z1 ⟨A, c⟩ r ∧ WatchOk C p l r) ∨ (er ≠ 0 ∧ qq = 0 ∧ A = none ∧ c = 0 ∧ r = [] ∧ WatchEr C p l er))) := ⟨_, hb1, hcase⟩
  clear hb1 hcase HFW HWA HH
  go_upto_region 5 with (fail)
  obtain ⟨W1, HW1⟩ : ∃ W1, Hid (W1 = z1.alloc (.cells #[.int .i64 qq, .slice A r.length c] 30)) := ⟨_, rfl⟩
  rw [← HW1.out]
  have hba : Below z1.heap.size z1 W1 := by rw [HW1.out]; exact Below.alloc' (Below.refl _ _) _
  have hax1 : W1.heap[z1.heap.size]? = some (.cells #[.int .i64 qq, .slice A r.length c] 30 (0, 0)) := by rw [HW1.out]; exact heap_alloc_new z1 _
  have HP1 : Hid (Below W0.heap.size W0 W1) := Below.step (Below.step zb.prop HZB.out.1) hba
  cases q1 : (er == 0) with
  | false =>
   have qn : ¬ (er = 0) := by rw [beq_eq_false_iff_ne] at q1; exact q1
   obtain ⟨HA, Hc, Hr⟩ : Hid (A = none) ∧ Hid (c = 0) ∧ Hid (r = []) := by
    rcases HZB.out.2 with ⟨e1, _⟩ | ⟨_, _, e2, e3, e4, _⟩
    · exact absurd e1 qn
    · exact ⟨e2, e3, e4⟩
   have h1 := HA.out; have h2 := Hc.out; have h3 := Hr.out
   subst h1 h2 h3
   have d1 : W1.cell? ⟨z1.heap.size, 1, none⟩ = some (.slice none 0 0) := (cell_of_row W1 _ 1 _ _ _ hax1).trans rfl
   clear hax1 hba HA Hc Hr HZB
   go_wp2
   go_ret
   exact ⟨rfl, Below.step HB.out HP1.out⟩
  | true =>
   obtain rfl : er = 0 := by rw [beq_iff_eq] at q1; exact q1
   obtain ⟨HQ, HSN, HOK⟩ : Hid (qq = p) ∧ Hid (StatesAt z1 ⟨A, c⟩ r) ∧ Hid (Watched C p l r) := by
    rcases HZB.out.2 with ⟨_, e2, e3, e4⟩ | ⟨e1, _⟩
    · exact ⟨e2, e3.at, e4.2⟩
    · exact absurd rfl e1
   have hq := HQ.out
   subst hq
   clear q1 HQ HZB
   obtain ⟨b0, hclo⟩ := HOK.out.clo
   have HCL := Lib.hid hclo; clear hclo
   have HPT : Hid (0 ≤ qq ∧ qq < C.parties) := HOK.out.party.2
   have hr1 : 0 < r.length := List.length_pos_iff.2 HOK.out.some
   have hr2 : r.length ≤ 300 := HCL.out.few
   have g1 : ((r.length : Int) == 0) = false := by rw [beq_eq_false_iff_ne]; omega
   have g2 : ¬ ((300 : Int) < r.length) := by omega
   have k0 : ∀ z : Bl W1, z.val.cell? ⟨w.heap.size, 0, none⟩ = some (.int .i64 C.parties) := fun z => k0_0 ⟨z.val, Below.step HP1.out z.prop⟩
   have k1 : ∀ z : Bl W1, z.val.cell? ⟨w.heap.size, 1, none⟩ = some (.slice vhA C.holders.length vhc) := fun z => k0_1 ⟨z.val, Below.step HP1.out z.prop⟩
   have k2 : ∀ z : Bl W1, z.val.cell? ⟨w.heap.size, 2, none⟩ = some (.slice vuA C.units.length vuc) := fun z => k0_2 ⟨z.val, Below.step HP1.out z.prop⟩
   have k3 : ∀ z : Bl W1, z.val.cell? ⟨w.heap.size, 3, none⟩ = some (.slice vaA C.acts.length vac) := fun z => k0_3 ⟨z.val, Below.step HP1.out z.prop⟩
   have k4 : ∀ z : Bl W1, z.val.cell? ⟨w.heap.size, 4, none⟩ = some (.slice vkA C.clauses.length vkc) := fun z => k0_4 ⟨z.val, Below.step HP1.out z.prop⟩
   have k5 : ∀ z : Bl W1, z.val.cell? ⟨w.heap.size, 5, none⟩ = some (.int .i64 C.days) := fun z => k0_5 ⟨z.val, Below.step HP1.out z.prop⟩
   have k6 : ∀ z : Bl W1, z.val.cell? ⟨w.heap.size, 6, none⟩ = some (.slice voA C.off.length voc) := fun z => k0_6 ⟨z.val, Below.step HP1.out z.prop⟩
   have d0 : ∀ z : Bl W1, z.val.cell? ⟨z1.heap.size, 0, none⟩ = some (.int .i64 qq) := fun z => z.cell ((cell_of_row W1 _ 0 _ _ _ hax1).trans rfl)
   have d1 : ∀ z : Bl W1, z.val.cell? ⟨z1.heap.size, 1, none⟩ = some (.slice A r.length c) := fun z => z.cell ((cell_of_row W1 _ 1 _ _ _ hax1).trans rfl)
   clear k0_0 k0_1 k0_2 k0_3 k0_4 k0_5 k0_6 hax1
   have HS1 : Hid (∀ z : Bl W1, StatesAt z.val ⟨A, c⟩ r) := fun z => HSN.out.below (Below.step hba z.prop)
   obtain ⟨b1, o1, hA1, hl1, hc1⟩ := (HS1.out ⟨W1, Below.refl _ _⟩).form hr1
   have HF := Lib.hid hc1; clear hc1
   try simp only at hA1
   subst hA1
   clear hl1
   have HB1 : Hid (Below w.heap.size w W1) := Below.step HB.out HP1.out
   obtain ⟨s1, hs1⟩ : ∃ s1 : Bl W1, s1.val = W1 := ⟨⟨W1, Below.refl _ _⟩, rfl⟩
   rw [← hs1]
   clear hs1 hba
   go_wp2
   go_loopg [10] r.length (fun gk v10 wr => ∃ (j : Nat) (z : Bl W1), gk = r.length - j ∧ j ≤ r.length ∧ v10 = .int .i64 j ∧ wr = z.val)
   case atStart => exact ⟨0, _, rfl, Nat.zero_le _, rfl, rfl⟩
   case round =>
    obtain ⟨j, zo, hgk, hj, rfl, rfl⟩ := hrel
    have HGK := Lib.hid hgk; clear hgk
    by_cases hlt : j < r.length
    · obtain ⟨s, hs⟩ : ∃ s, r[j]? = some s := ⟨r[j], List.getElem?_eq_getElem hlt⟩
      have HS0 := Lib.hid hs; clear hs
      obtain ⟨⟨⟨shA, shc⟩, ⟨suA, suc⟩, ⟨smA, smc⟩⟩, hst, hcs⟩ := HF.out j s HS0.out
      have e0 : ∀ z : Bl W1, z.val.cell? ⟨b1, o1 + j * 4, none⟩ = some (.int .i64 s.day) := fun z => hcs z.val z.prop 0 (by omega)
      have e1 : ∀ z : Bl W1, z.val.cell? ⟨b1, o1 + j * 4 + 1, none⟩ = some (.slice shA s.holders.length shc) := fun z => hcs z.val z.prop 1 (by omega)
      have e2 : ∀ z : Bl W1, z.val.cell? ⟨b1, o1 + j * 4 + 2, none⟩ = some (.slice suA s.used.length suc) := fun z => hcs z.val z.prop 2 (by omega)
      have e3 : ∀ z : Bl W1, z.val.cell? ⟨b1, o1 + j * 4 + 3, none⟩ = some (.slice smA s.marks.length smc) := fun z => hcs z.val z.prop 3 (by omega)
      have HS2 := Lib.hid hst; clear hst hcs
      have HSO : Hid (StateOk C s) := HCL.out.ok s (List.mem_of_getElem? HS0.out)
      have j1 : (j : Int) < (r.length : Int) := by omega
      go_upto_region 13 with (fail)
      obtain ⟨W2, HW2⟩ : ∃ W2, Hid (W2 = zo.val.alloc (.cells #[.int .i64 s.day, .slice shA s.holders.length shc, .slice suA s.used.length suc, .slice smA s.marks.length smc] 43)) := ⟨_, rfl⟩
      rw [← HW2.out]
      have hb2 : Below zo.val.heap.size zo.val W2 := by rw [HW2.out]; exact Below.alloc' (Below.refl _ _) _
      have hx2 : W2.heap[zo.val.heap.size]? = some (.cells #[.int .i64 s.day, .slice shA s.holders.length shc, .slice suA s.used.length suc, .slice smA s.marks.length smc] 43 (0, 0)) := by rw [HW2.out]; exact heap_alloc_new zo.val _
      have HP2 : Hid (Below W1.heap.size W1 W2) := Below.step zo.prop hb2
      have HB2 : Hid (Below w.heap.size w W2) := Below.step HB1.out HP2.out
      have n0 : ∀ z : Bl W2, z.val.cell? ⟨w.heap.size, 0, none⟩ = some (.int .i64 C.parties) := fun z => k0 ⟨z.val, Below.step HP2.out z.prop⟩
      have n1 : ∀ z : Bl W2, z.val.cell? ⟨w.heap.size, 1, none⟩ = some (.slice vhA C.holders.length vhc) := fun z => k1 ⟨z.val, Below.step HP2.out z.prop⟩
      have n2 : ∀ z : Bl W2, z.val.cell? ⟨w.heap.size, 2, none⟩ = some (.slice vuA C.units.length vuc) := fun z => k2 ⟨z.val, Below.step HP2.out z.prop⟩
      have n3 : ∀ z : Bl W2, z.val.cell? ⟨w.heap.size, 3, none⟩ = some (.slice vaA C.acts.length vac) := fun z => k3 ⟨z.val, Below.step HP2.out z.prop⟩
      have n4 : ∀ z : Bl W2, z.val.cell? ⟨w.heap.size, 4, none⟩ = some (.slice vkA C.clauses.length vkc) := fun z => k4 ⟨z.val, Below.step HP2.out z.prop⟩
      have n5 : ∀ z : Bl W2, z.val.cell? ⟨w.heap.size, 5, none⟩ = some (.int .i64 C.days) := fun z => k5 ⟨z.val, Below.step HP2.out z.prop⟩
      have n6 : ∀ z : Bl W2, z.val.cell? ⟨w.heap.size, 6, none⟩ = some (.slice voA C.off.length voc) := fun z => k6 ⟨z.val, Below.step HP2.out z.prop⟩
      have f0 : ∀ z : Bl W2, z.val.cell? ⟨z1.heap.size, 0, none⟩ = some (.int .i64 qq) := fun z => d0 ⟨z.val, Below.step HP2.out z.prop⟩
      have f1 : ∀ z : Bl W2, z.val.cell? ⟨z1.heap.size, 1, none⟩ = some (.slice (some ⟨b1, o1, none⟩) r.length c) := fun z => d1 ⟨z.val, Below.step HP2.out z.prop⟩
      have t0 : ∀ z : Bl W2, z.val.cell? ⟨zo.val.heap.size, 0, none⟩ = some (.int .i64 s.day) := fun z => z.cell ((cell_of_row W2 _ 0 _ _ _ hx2).trans rfl)
      have t1 : ∀ z : Bl W2, z.val.cell? ⟨zo.val.heap.size, 1, none⟩ = some (.slice shA s.holders.length shc) := fun z => z.cell ((cell_of_row W2 _ 1 _ _ _ hx2).trans rfl)
      have t2 : ∀ z : Bl W2, z.val.cell? ⟨zo.val.heap.size, 2, none⟩ = some (.slice suA s.used.length suc) := fun z => z.cell ((cell_of_row W2 _ 2 _ _ _ hx2).trans rfl)
      have t3 : ∀ z : Bl W2, z.val.cell? ⟨zo.val.heap.size, 3, none⟩ = some (.slice smA s.marks.length smc) := fun z => z.cell ((cell_of_row W2 _ 3 _ _ _ hx2).trans rfl)
      have HST2 : Hid (∀ z : Bl W2, StateAt z.val (⟨⟨shA, shc⟩, ⟨suA, suc⟩, ⟨smA, smc⟩⟩ : TV) s) := fun z => HS2.out.below (Below.step HP2.out z.prop)
      have HVA := Lib.hid (fun z : Bl W2 => stateValid_any (⟨⟨vhA, vhc⟩, ⟨vuA, vuc⟩, ⟨vaA, vac⟩, ⟨vkA, vkc⟩, ⟨voA, voc⟩⟩ : CV) C (⟨⟨shA, shc⟩, ⟨suA, suc⟩, ⟨smA, smc⟩⟩ : TV) s z.val (HC.out.below (Below.step HB2.out z.prop)) (HST2.out z))
      simp only [CV.val, CV.cells, TV.val, TV.cells, KState.cells] at HVA
      rw [(okState_iff C s).2 HSO.out] at HVA
      have HTB : Hid (∀ z : Bl W2, Tab z.val) := fun z => HT.out.below (Below.step HB2.out z.prop)
      have HEN : Hid (∀ (z : Bl W2) (d : Int) (hA : Option Addr) (hn hc : Nat) (uA : Option Addr) (un uc : Nat) (mA : Option Addr) (mn mc : Nat) (x : ByteArray), EncOk W2 d hA hn hc uA un uc mA mn mc x → Calls Tryz.prog 20 #[.agg #[.int .i64 d, .slice hA hn hc, .slice uA un uc, .slice mA mn mc]] z.val (RetB (.string x) z.val)) := fun z d hA hn hc uA un uc mA mn mc x h => h.calls z (HTB.out z)
      have es : EncOk W2 s.day shA s.holders.length shc suA s.used.length suc smA s.marks.length smc ⟨s.text.toArray⟩ := ⟨⟨s, (⟨⟨shA, shc⟩, ⟨suA, suc⟩, ⟨smA, smc⟩⟩ : TV), rfl, ⟨rfl, rfl, rfl⟩, ⟨rfl, rfl, rfl⟩, ⟨rfl, rfl, rfl⟩, HST2.out ⟨W2, Below.refl _ _⟩, HSO.out.ranged, rfl⟩⟩
      obtain ⟨s2, hs2⟩ : ∃ s2 : Bl W2, s2.val = W2 := ⟨⟨W2, Below.refl _ _⟩, rfl⟩
      rw [← hs2]
      clear hs2 hx2 hb2
      by_cases hj0 : j = 0
      · subst hj0
        generalize (⟨s.text.toArray⟩ : ByteArray) = xs at es
        go_wp2_with fail
        refine wp_region_bl (by kernel_rfl) (by kernel_rfl) ?_
        repeat (go_big_quiet_step ((first | (go_at_call 19; exact Calls.bl_of (HVA.out _)) | (go_at_call 20; exact Calls.bl_of (HEN.out _ _ _ _ _ _ _ _ _ _ _ _ (by first | exact es))))))
        refine wpQuiet_nil ?_
        rintro _ ⟨zq, rfl⟩
        go_wp2
        go_loopg [12] C.acts.length (fun gk2 v12 wr => ∃ (i : Nat) (z : Bl W2), gk2 = C.acts.length - i ∧ i ≤ C.acts.length ∧ v12 = .int .i64 i ∧ wr = z.val)
        case atStart => exact ⟨0, _, rfl, Nat.zero_le _, rfl, rfl⟩
        case round =>
         obtain ⟨i, zi, hgk2, hi, rfl, rfl⟩ := hrel
         have HG2 := Lib.hid hgk2; clear hgk2
         by_cases hil : i < C.acts.length
         · by_cases hday : s.day < C.days
           · have i1 : (i : Int) < (C.acts.length : Int) := by omega
             have hse : C.stepErr s i = 0 := stepErr_act HSO.out hday hil
             have HST : Hid (∀ z : Bl W2, Calls Tryz.prog 21 #[.agg #[.int .i64 C.parties, .slice vhA C.holders.length vhc, .slice vuA C.units.length vuc, .slice vaA C.acts.length vac, .slice vkA C.clauses.length vkc, .int .i64 C.days, .slice voA C.off.length voc], .agg #[.int .i64 s.day, .slice shA s.holders.length shc, .slice suA s.used.length suc, .slice smA s.marks.length smc], .int .i64 i] z.val (fun e w' => ∃ (thA : Option Addr) (thc : Nat) (tuA : Option Addr) (tuc : Nat) (tmA : Option Addr) (tmc : Nat), e = .returned (.tuple #[.agg #[.int .i64 (C.next s i).day, .slice thA (C.next s i).holders.length thc, .slice tuA (C.next s i).used.length tuc, .slice tmA (C.next s i).marks.length tmc], .int .i64 0]) ∧ Below z.val.heap.size z.val w' ∧ StateAt w' (⟨⟨thA, thc⟩, ⟨tuA, tuc⟩, ⟨tmA, tmc⟩⟩ : TV) (C.next s i))) := fun z => by
              have h := step_any (⟨⟨vhA, vhc⟩, ⟨vuA, vuc⟩, ⟨vaA, vac⟩, ⟨vkA, vkc⟩, ⟨voA, voc⟩⟩ : CV) C (⟨⟨shA, shc⟩, ⟨suA, suc⟩, ⟨smA, smc⟩⟩ : TV) s i z.val (HC.out.below (Below.step HB2.out z.prop)) (HST2.out z)
              rw [hse] at h
              refine h.mono ?_
              rintro e w' ⟨hb, ⟨_, ⟨⟨hA, hc⟩, ⟨uA, uc⟩, ⟨mA, mc⟩⟩, rfl, h2, _⟩ | ⟨h1, _⟩⟩
              · exact ⟨hA, hc, uA, uc, mA, mc, rfl, hb, h2⟩
              · exact absurd rfl h1
             clear hse
             have HSE := Lib.hid (fun z : Bl W2 => seesPub_any (⟨⟨vhA, vhc⟩, ⟨vuA, vuc⟩, ⟨vaA, vac⟩, ⟨vkA, vkc⟩, ⟨voA, voc⟩⟩ : CV) C (⟨⟨shA, shc⟩, ⟨suA, suc⟩, ⟨smA, smc⟩⟩ : TV) s qq i z.val (HC.out.below (Below.step HB2.out z.prop)) (HST2.out z))
             simp only [CV.val, CV.cells, TV.val, TV.cells, KState.cells] at HSE
             have HIN : Hid (C.sees s qq i = false → hasB r (C.next s i) = true) := fun h => hasB_iff.2 (HCL.out.unseen (List.mem_of_getElem? HS0.out) hday HPT.out.1 HPT.out.2 hil h)
             generalize hcn : C.next s i = t at HST HIN
             generalize hcs : C.sees s qq i = sx at HSE HIN
             clear hcn hcs
             go_wp2_with (go_at_call 21; refine (HST.out _).mono ?_; rintro e z3 ⟨thA, thc, tuA, tuc, tmA, tmc, rfl, hb3, ht3⟩; refine Hid.out ?_)
             refine Lib.hid ?_
             obtain ⟨zb3, HZ3⟩ : ∃ zb3 : Bl W2, Hid (Below zb3.val.heap.size zb3.val z3) := ⟨_, hb3⟩
             clear hb3
             have HT3 := Lib.hid ht3; clear ht3
             go_upto_region 19 with (fail)
             obtain ⟨W3, HW3⟩ : ∃ W3, Hid (W3 = z3.alloc (.cells #[.int .i64 t.day, .slice thA t.holders.length thc, .slice tuA t.used.length tuc, .slice tmA t.marks.length tmc] 43)) := ⟨_, rfl⟩
             rw [← HW3.out]
             have hb3 : Below z3.heap.size z3 W3 := by rw [HW3.out]; exact Below.alloc' (Below.refl _ _) _
             have hx3 : W3.heap[z3.heap.size]? = some (.cells #[.int .i64 t.day, .slice thA t.holders.length thc, .slice tuA t.used.length tuc, .slice tmA t.marks.length tmc] 43 (0, 0)) := by rw [HW3.out]; exact heap_alloc_new z3 _
             have HP3 : Hid (Below W2.heap.size W2 W3) := Below.step (Below.step zb3.prop HZ3.out) hb3
             have m0 : ∀ z : Bl W3, z.val.cell? ⟨w.heap.size, 0, none⟩ = some (.int .i64 C.parties) := fun z => n0 ⟨z.val, Below.step HP3.out z.prop⟩
             have m1 : ∀ z : Bl W3, z.val.cell? ⟨w.heap.size, 1, none⟩ = some (.slice vhA C.holders.length vhc) := fun z => n1 ⟨z.val, Below.step HP3.out z.prop⟩
             have m2 : ∀ z : Bl W3, z.val.cell? ⟨w.heap.size, 2, none⟩ = some (.slice vuA C.units.length vuc) := fun z => n2 ⟨z.val, Below.step HP3.out z.prop⟩
             have m3 : ∀ z : Bl W3, z.val.cell? ⟨w.heap.size, 3, none⟩ = some (.slice vaA C.acts.length vac) := fun z => n3 ⟨z.val, Below.step HP3.out z.prop⟩
             have m4 : ∀ z : Bl W3, z.val.cell? ⟨w.heap.size, 4, none⟩ = some (.slice vkA C.clauses.length vkc) := fun z => n4 ⟨z.val, Below.step HP3.out z.prop⟩
             have m5 : ∀ z : Bl W3, z.val.cell? ⟨w.heap.size, 5, none⟩ = some (.int .i64 C.days) := fun z => n5 ⟨z.val, Below.step HP3.out z.prop⟩
             have m6 : ∀ z : Bl W3, z.val.cell? ⟨w.heap.size, 6, none⟩ = some (.slice voA C.off.length voc) := fun z => n6 ⟨z.val, Below.step HP3.out z.prop⟩
             have h0 : ∀ z : Bl W3, z.val.cell? ⟨z1.heap.size, 0, none⟩ = some (.int .i64 qq) := fun z => f0 ⟨z.val, Below.step HP3.out z.prop⟩
             have h1 : ∀ z : Bl W3, z.val.cell? ⟨z1.heap.size, 1, none⟩ = some (.slice (some ⟨b1, o1, none⟩) r.length c) := fun z => f1 ⟨z.val, Below.step HP3.out z.prop⟩
             have u0 : ∀ z : Bl W3, z.val.cell? ⟨zo.val.heap.size, 0, none⟩ = some (.int .i64 s.day) := fun z => t0 ⟨z.val, Below.step HP3.out z.prop⟩
             have u1 : ∀ z : Bl W3, z.val.cell? ⟨zo.val.heap.size, 1, none⟩ = some (.slice shA s.holders.length shc) := fun z => t1 ⟨z.val, Below.step HP3.out z.prop⟩
             have u2 : ∀ z : Bl W3, z.val.cell? ⟨zo.val.heap.size, 2, none⟩ = some (.slice suA s.used.length suc) := fun z => t2 ⟨z.val, Below.step HP3.out z.prop⟩
             have u3 : ∀ z : Bl W3, z.val.cell? ⟨zo.val.heap.size, 3, none⟩ = some (.slice smA s.marks.length smc) := fun z => t3 ⟨z.val, Below.step HP3.out z.prop⟩
             have x0 : ∀ z : Bl W3, z.val.cell? ⟨z3.heap.size, 0, none⟩ = some (.int .i64 t.day) := fun z => z.cell ((cell_of_row W3 _ 0 _ _ _ hx3).trans rfl)
             have x1 : ∀ z : Bl W3, z.val.cell? ⟨z3.heap.size, 1, none⟩ = some (.slice thA t.holders.length thc) := fun z => z.cell ((cell_of_row W3 _ 1 _ _ _ hx3).trans rfl)
             have x2 : ∀ z : Bl W3, z.val.cell? ⟨z3.heap.size, 2, none⟩ = some (.slice tuA t.used.length tuc) := fun z => z.cell ((cell_of_row W3 _ 2 _ _ _ hx3).trans rfl)
             have x3 : ∀ z : Bl W3, z.val.cell? ⟨z3.heap.size, 3, none⟩ = some (.slice tmA t.marks.length tmc) := fun z => z.cell ((cell_of_row W3 _ 3 _ _ _ hx3).trans rfl)
             have HSE3 : Hid (∀ z : Bl W3, Calls Tryz.prog 22 #[.agg #[.int .i64 C.parties, .slice vhA C.holders.length vhc, .slice vuA C.units.length vuc, .slice vaA C.acts.length vac, .slice vkA C.clauses.length vkc, .int .i64 C.days, .slice voA C.off.length voc], .agg #[.int .i64 s.day, .slice shA s.holders.length shc, .slice suA s.used.length suc, .slice smA s.marks.length smc], .int .i64 qq, .int .i64 i] z.val (RetB (.bool sx) z.val)) := fun z => HSE.out ⟨z.val, Below.step HP3.out z.prop⟩
             have HHA := Lib.hid (fun z : Bl W3 => has_any qq ⟨some ⟨b1, o1, none⟩, c⟩ r (⟨⟨thA, thc⟩, ⟨tuA, tuc⟩, ⟨tmA, tmc⟩⟩ : TV) t z.val (HS1.out ⟨z.val, Below.step HP2.out (Below.step HP3.out z.prop)⟩) (HT3.out.below (Below.step hb3 z.prop)))
             simp only [TV.val, TV.cells, KState.cells] at HHA
             obtain ⟨s3, hs3⟩ : ∃ s3 : Bl W3, s3.val = W3 := ⟨⟨W3, Below.refl _ _⟩, rfl⟩
             rw [← hs3]
             clear hs3 hx3 hb3
             cases sx with
             | true =>
              go_wp2_with (first | (go_at_call 22; refine (HSE3.out _).mono ?_; rintro e z ⟨rfl, hz⟩; obtain ⟨z, rfl⟩ := Bl.on hz; clear hz))
              go_roundg (C.acts.length - (i + 1))
              case measure => have := HG2.out; omega
              case rel => exact ⟨i + 1, ⟨_, Below.step HP3.out (Bl.prop _)⟩, rfl, by omega, by go_num, rfl⟩
             | false =>
              rw [HIN.out rfl] at HHA
              go_wp2_with (first | (go_at_call 22; refine (HSE3.out _).mono ?_; rintro e z ⟨rfl, hz⟩; obtain ⟨z, rfl⟩ := Bl.on hz; clear hz) | (go_at_call 23; refine (HHA.out _).mono ?_; rintro e z ⟨rfl, hz⟩; obtain ⟨z, rfl⟩ := Bl.on hz; clear hz))
              go_roundg (C.acts.length - (i + 1))
              case measure => have := HG2.out; omega
              case rel => exact ⟨i + 1, ⟨_, Below.step HP3.out (Bl.prop _)⟩, rfl, by omega, by go_num, rfl⟩
           · have i1 : (i : Int) < (C.acts.length : Int) := by omega
             go_wp2
             go_roundg (r.length - (0 + 1))
             case measure => have := HGK.out; omega
             case rel => exact ⟨0 + 1, ⟨_, Below.step HP2.out (Bl.prop _)⟩, rfl, by omega, by go_num, rfl⟩
         · have i1 : ¬ ((i : Int) < (C.acts.length : Int)) := by omega
           go_wp2
           go_roundg (r.length - (0 + 1))
           case measure => have := HGK.out; omega
           case rel => exact ⟨0 + 1, ⟨_, Below.step HP2.out (Bl.prop _)⟩, rfl, by omega, by go_num, rfl⟩
      · obtain ⟨k, hk⟩ : ∃ k, j = k + 1 := ⟨j - 1, by omega⟩
        subst hk
        obtain ⟨sp, hsp⟩ : ∃ s, r[k]? = some s := ⟨r[k], List.getElem?_eq_getElem (by omega)⟩
        obtain ⟨⟨⟨phA, phc⟩, ⟨puA, puc⟩, ⟨pmA, pmc⟩⟩, hpt, hcp⟩ := HF.out k sp hsp
        have y0 : ∀ z : Bl W2, z.val.cell? ⟨b1, o1 + k * 4, none⟩ = some (.int .i64 sp.day) := fun z => hcp z.val (Below.step HP2.out z.prop) 0 (by omega)
        have y1 : ∀ z : Bl W2, z.val.cell? ⟨b1, o1 + k * 4 + 1, none⟩ = some (.slice phA sp.holders.length phc) := fun z => hcp z.val (Below.step HP2.out z.prop) 1 (by omega)
        have y2 : ∀ z : Bl W2, z.val.cell? ⟨b1, o1 + k * 4 + 2, none⟩ = some (.slice puA sp.used.length puc) := fun z => hcp z.val (Below.step HP2.out z.prop) 2 (by omega)
        have y3 : ∀ z : Bl W2, z.val.cell? ⟨b1, o1 + k * 4 + 3, none⟩ = some (.slice pmA sp.marks.length pmc) := fun z => hcp z.val (Below.step HP2.out z.prop) 3 (by omega)
        have ep : EncOk W2 sp.day phA sp.holders.length phc puA sp.used.length puc pmA sp.marks.length pmc ⟨sp.text.toArray⟩ := ⟨⟨sp, (⟨⟨phA, phc⟩, ⟨puA, puc⟩, ⟨pmA, pmc⟩⟩ : TV), rfl, ⟨rfl, rfl, rfl⟩, ⟨rfl, rfl, rfl⟩, ⟨rfl, rfl, rfl⟩, hpt.below HP2.out, (HCL.out.ok sp (List.mem_of_getElem? hsp)).ranged, rfl⟩⟩
        have hless := less_of_lt (HCL.out.less hsp HS0.out)
        generalize (⟨s.text.toArray⟩ : ByteArray) = xs at es hless
        generalize (⟨sp.text.toArray⟩ : ByteArray) = xp at ep hless
        clear hpt hcp hsp hj0
        have k1 : (k : Int) < (r.length : Int) := by omega
        have kx : max (k : Int) 0 = (k : Int) := by omega
        go_wp2_with fail
        refine wp_region_bl (by kernel_rfl) (by kernel_rfl) ?_
        repeat (go_big_quiet_step ((first | (go_at_call 19; exact Calls.bl_of (HVA.out _)) | (go_at_call 20; exact Calls.bl_of (HEN.out _ _ _ _ _ _ _ _ _ _ _ _ (by first | exact es | exact ep))))))
        refine wpQuiet_nil ?_
        rintro _ ⟨zq, rfl⟩
        go_wp2
        go_loopg [12] C.acts.length (fun gk2 v12 wr => ∃ (i : Nat) (z : Bl W2), gk2 = C.acts.length - i ∧ i ≤ C.acts.length ∧ v12 = .int .i64 i ∧ wr = z.val)
        case atStart => exact ⟨0, _, rfl, Nat.zero_le _, rfl, rfl⟩
        case round =>
         obtain ⟨i, zi, hgk2, hi, rfl, rfl⟩ := hrel
         have HG2 := Lib.hid hgk2; clear hgk2
         by_cases hil : i < C.acts.length
         · by_cases hday : s.day < C.days
           · have i1 : (i : Int) < (C.acts.length : Int) := by omega
             have hse : C.stepErr s i = 0 := stepErr_act HSO.out hday hil
             have HST : Hid (∀ z : Bl W2, Calls Tryz.prog 21 #[.agg #[.int .i64 C.parties, .slice vhA C.holders.length vhc, .slice vuA C.units.length vuc, .slice vaA C.acts.length vac, .slice vkA C.clauses.length vkc, .int .i64 C.days, .slice voA C.off.length voc], .agg #[.int .i64 s.day, .slice shA s.holders.length shc, .slice suA s.used.length suc, .slice smA s.marks.length smc], .int .i64 i] z.val (fun e w' => ∃ (thA : Option Addr) (thc : Nat) (tuA : Option Addr) (tuc : Nat) (tmA : Option Addr) (tmc : Nat), e = .returned (.tuple #[.agg #[.int .i64 (C.next s i).day, .slice thA (C.next s i).holders.length thc, .slice tuA (C.next s i).used.length tuc, .slice tmA (C.next s i).marks.length tmc], .int .i64 0]) ∧ Below z.val.heap.size z.val w' ∧ StateAt w' (⟨⟨thA, thc⟩, ⟨tuA, tuc⟩, ⟨tmA, tmc⟩⟩ : TV) (C.next s i))) := fun z => by
              have h := step_any (⟨⟨vhA, vhc⟩, ⟨vuA, vuc⟩, ⟨vaA, vac⟩, ⟨vkA, vkc⟩, ⟨voA, voc⟩⟩ : CV) C (⟨⟨shA, shc⟩, ⟨suA, suc⟩, ⟨smA, smc⟩⟩ : TV) s i z.val (HC.out.below (Below.step HB2.out z.prop)) (HST2.out z)
              rw [hse] at h
              refine h.mono ?_
              rintro e w' ⟨hb, ⟨_, ⟨⟨hA, hc⟩, ⟨uA, uc⟩, ⟨mA, mc⟩⟩, rfl, h2, _⟩ | ⟨h1, _⟩⟩
              · exact ⟨hA, hc, uA, uc, mA, mc, rfl, hb, h2⟩
              · exact absurd rfl h1
             clear hse
             have HSE := Lib.hid (fun z : Bl W2 => seesPub_any (⟨⟨vhA, vhc⟩, ⟨vuA, vuc⟩, ⟨vaA, vac⟩, ⟨vkA, vkc⟩, ⟨voA, voc⟩⟩ : CV) C (⟨⟨shA, shc⟩, ⟨suA, suc⟩, ⟨smA, smc⟩⟩ : TV) s qq i z.val (HC.out.below (Below.step HB2.out z.prop)) (HST2.out z))
             simp only [CV.val, CV.cells, TV.val, TV.cells, KState.cells] at HSE
             have HIN : Hid (C.sees s qq i = false → hasB r (C.next s i) = true) := fun h => hasB_iff.2 (HCL.out.unseen (List.mem_of_getElem? HS0.out) hday HPT.out.1 HPT.out.2 hil h)
             generalize hcn : C.next s i = t at HST HIN
             generalize hcs : C.sees s qq i = sx at HSE HIN
             clear hcn hcs
             go_wp2_with (go_at_call 21; refine (HST.out _).mono ?_; rintro e z3 ⟨thA, thc, tuA, tuc, tmA, tmc, rfl, hb3, ht3⟩; refine Hid.out ?_)
             refine Lib.hid ?_
             obtain ⟨zb3, HZ3⟩ : ∃ zb3 : Bl W2, Hid (Below zb3.val.heap.size zb3.val z3) := ⟨_, hb3⟩
             clear hb3
             have HT3 := Lib.hid ht3; clear ht3
             go_upto_region 19 with (fail)
             obtain ⟨W3, HW3⟩ : ∃ W3, Hid (W3 = z3.alloc (.cells #[.int .i64 t.day, .slice thA t.holders.length thc, .slice tuA t.used.length tuc, .slice tmA t.marks.length tmc] 43)) := ⟨_, rfl⟩
             rw [← HW3.out]
             have hb3 : Below z3.heap.size z3 W3 := by rw [HW3.out]; exact Below.alloc' (Below.refl _ _) _
             have hx3 : W3.heap[z3.heap.size]? = some (.cells #[.int .i64 t.day, .slice thA t.holders.length thc, .slice tuA t.used.length tuc, .slice tmA t.marks.length tmc] 43 (0, 0)) := by rw [HW3.out]; exact heap_alloc_new z3 _
             have HP3 : Hid (Below W2.heap.size W2 W3) := Below.step (Below.step zb3.prop HZ3.out) hb3
             have m0 : ∀ z : Bl W3, z.val.cell? ⟨w.heap.size, 0, none⟩ = some (.int .i64 C.parties) := fun z => n0 ⟨z.val, Below.step HP3.out z.prop⟩
             have m1 : ∀ z : Bl W3, z.val.cell? ⟨w.heap.size, 1, none⟩ = some (.slice vhA C.holders.length vhc) := fun z => n1 ⟨z.val, Below.step HP3.out z.prop⟩
             have m2 : ∀ z : Bl W3, z.val.cell? ⟨w.heap.size, 2, none⟩ = some (.slice vuA C.units.length vuc) := fun z => n2 ⟨z.val, Below.step HP3.out z.prop⟩
             have m3 : ∀ z : Bl W3, z.val.cell? ⟨w.heap.size, 3, none⟩ = some (.slice vaA C.acts.length vac) := fun z => n3 ⟨z.val, Below.step HP3.out z.prop⟩
             have m4 : ∀ z : Bl W3, z.val.cell? ⟨w.heap.size, 4, none⟩ = some (.slice vkA C.clauses.length vkc) := fun z => n4 ⟨z.val, Below.step HP3.out z.prop⟩
             have m5 : ∀ z : Bl W3, z.val.cell? ⟨w.heap.size, 5, none⟩ = some (.int .i64 C.days) := fun z => n5 ⟨z.val, Below.step HP3.out z.prop⟩
             have m6 : ∀ z : Bl W3, z.val.cell? ⟨w.heap.size, 6, none⟩ = some (.slice voA C.off.length voc) := fun z => n6 ⟨z.val, Below.step HP3.out z.prop⟩
             have h0 : ∀ z : Bl W3, z.val.cell? ⟨z1.heap.size, 0, none⟩ = some (.int .i64 qq) := fun z => f0 ⟨z.val, Below.step HP3.out z.prop⟩
             have h1 : ∀ z : Bl W3, z.val.cell? ⟨z1.heap.size, 1, none⟩ = some (.slice (some ⟨b1, o1, none⟩) r.length c) := fun z => f1 ⟨z.val, Below.step HP3.out z.prop⟩
             have u0 : ∀ z : Bl W3, z.val.cell? ⟨zo.val.heap.size, 0, none⟩ = some (.int .i64 s.day) := fun z => t0 ⟨z.val, Below.step HP3.out z.prop⟩
             have u1 : ∀ z : Bl W3, z.val.cell? ⟨zo.val.heap.size, 1, none⟩ = some (.slice shA s.holders.length shc) := fun z => t1 ⟨z.val, Below.step HP3.out z.prop⟩
             have u2 : ∀ z : Bl W3, z.val.cell? ⟨zo.val.heap.size, 2, none⟩ = some (.slice suA s.used.length suc) := fun z => t2 ⟨z.val, Below.step HP3.out z.prop⟩
             have u3 : ∀ z : Bl W3, z.val.cell? ⟨zo.val.heap.size, 3, none⟩ = some (.slice smA s.marks.length smc) := fun z => t3 ⟨z.val, Below.step HP3.out z.prop⟩
             have x0 : ∀ z : Bl W3, z.val.cell? ⟨z3.heap.size, 0, none⟩ = some (.int .i64 t.day) := fun z => z.cell ((cell_of_row W3 _ 0 _ _ _ hx3).trans rfl)
             have x1 : ∀ z : Bl W3, z.val.cell? ⟨z3.heap.size, 1, none⟩ = some (.slice thA t.holders.length thc) := fun z => z.cell ((cell_of_row W3 _ 1 _ _ _ hx3).trans rfl)
             have x2 : ∀ z : Bl W3, z.val.cell? ⟨z3.heap.size, 2, none⟩ = some (.slice tuA t.used.length tuc) := fun z => z.cell ((cell_of_row W3 _ 2 _ _ _ hx3).trans rfl)
             have x3 : ∀ z : Bl W3, z.val.cell? ⟨z3.heap.size, 3, none⟩ = some (.slice tmA t.marks.length tmc) := fun z => z.cell ((cell_of_row W3 _ 3 _ _ _ hx3).trans rfl)
             have HSE3 : Hid (∀ z : Bl W3, Calls Tryz.prog 22 #[.agg #[.int .i64 C.parties, .slice vhA C.holders.length vhc, .slice vuA C.units.length vuc, .slice vaA C.acts.length vac, .slice vkA C.clauses.length vkc, .int .i64 C.days, .slice voA C.off.length voc], .agg #[.int .i64 s.day, .slice shA s.holders.length shc, .slice suA s.used.length suc, .slice smA s.marks.length smc], .int .i64 qq, .int .i64 i] z.val (RetB (.bool sx) z.val)) := fun z => HSE.out ⟨z.val, Below.step HP3.out z.prop⟩
             have HHA := Lib.hid (fun z : Bl W3 => has_any qq ⟨some ⟨b1, o1, none⟩, c⟩ r (⟨⟨thA, thc⟩, ⟨tuA, tuc⟩, ⟨tmA, tmc⟩⟩ : TV) t z.val (HS1.out ⟨z.val, Below.step HP2.out (Below.step HP3.out z.prop)⟩) (HT3.out.below (Below.step hb3 z.prop)))
             simp only [TV.val, TV.cells, KState.cells] at HHA
             obtain ⟨s3, hs3⟩ : ∃ s3 : Bl W3, s3.val = W3 := ⟨⟨W3, Below.refl _ _⟩, rfl⟩
             rw [← hs3]
             clear hs3 hx3 hb3
             cases sx with
             | true =>
              go_wp2_with (first | (go_at_call 22; refine (HSE3.out _).mono ?_; rintro e z ⟨rfl, hz⟩; obtain ⟨z, rfl⟩ := Bl.on hz; clear hz))
              go_roundg (C.acts.length - (i + 1))
              case measure => have := HG2.out; omega
              case rel => exact ⟨i + 1, ⟨_, Below.step HP3.out (Bl.prop _)⟩, rfl, by omega, by go_num, rfl⟩
             | false =>
              rw [HIN.out rfl] at HHA
              go_wp2_with (first | (go_at_call 22; refine (HSE3.out _).mono ?_; rintro e z ⟨rfl, hz⟩; obtain ⟨z, rfl⟩ := Bl.on hz; clear hz) | (go_at_call 23; refine (HHA.out _).mono ?_; rintro e z ⟨rfl, hz⟩; obtain ⟨z, rfl⟩ := Bl.on hz; clear hz))
              go_roundg (C.acts.length - (i + 1))
              case measure => have := HG2.out; omega
              case rel => exact ⟨i + 1, ⟨_, Below.step HP3.out (Bl.prop _)⟩, rfl, by omega, by go_num, rfl⟩
           · have i1 : (i : Int) < (C.acts.length : Int) := by omega
             go_wp2
             go_roundg (r.length - (k + 1 + 1))
             case measure => have := HGK.out; omega
             case rel => exact ⟨k + 1 + 1, ⟨_, Below.step HP2.out (Bl.prop _)⟩, rfl, by omega, by go_num, rfl⟩
         · have i1 : ¬ ((i : Int) < (C.acts.length : Int)) := by omega
           go_wp2
           go_roundg (r.length - (k + 1 + 1))
           case measure => have := HGK.out; omega
           case rel => exact ⟨k + 1 + 1, ⟨_, Below.step HP2.out (Bl.prop _)⟩, rfl, by omega, by go_num, rfl⟩
    · have hjn : j = r.length := by omega
      subst hjn
      go_wp2
      go_ret
      exact ⟨rfl, Below.step HB1.out (Bl.prop _)⟩
end Go.Proofs.YtaielhafpmjkaaaGreatDoor
