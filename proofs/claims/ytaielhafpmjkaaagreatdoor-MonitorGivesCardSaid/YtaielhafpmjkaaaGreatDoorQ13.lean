/-
  Work3; Start0; Start1; Start2; Doer
-/
import Derived.Test.YtaielhafpmjkaaaGreatDoorQ12
namespace Go.Proofs.YtaielhafpmjkaaaGreatDoor
open Go.RowKit
def KMark.expired (m : KMark) (grace : Int) : KMark := cond ((m.status == 1) && decide (0 < grace)) ⟨2, grace, m.got, m.bearer, m.paused⟩ (m.ended 4)
section
variable {w0 w : World} {g : Nat} {v : CV} {C : KCon} {t : TV} {s : KState} {gh gu gm : Nat}
set_option maxRecDepth 100000 in
set_option maxHeartbeats 2000000 in
theorem expire_any (h : WorkAt w0 w g v C t s gh gu gm) (i : Nat) (m : KMark) (hm : s.marks[i]? = some m) (k : KClause) (hk : C.clauses[i]? = some k) :
 Calls Tryz.prog 64 #[.pointer (some ⟨g, 0, none⟩), .int .i64 i] w (WorkPostU w0 g v C t ⟨s.day, s.holders, s.used, s.marks.set i (m.expired k.grace)⟩ gh gu gm w) := by
 have him : i < s.marks.length := (List.getElem?_eq_some_iff.1 hm).1
 have hik : i < C.clauses.length := (List.getElem?_eq_some_iff.1 hk).1
 obtain ⟨off, hA, hgl, hcell, hfz⟩ := h.markAt hm
 obtain ⟨b, koff, st, hK, hbl, hkc, _⟩ := h.con.clause hk
 obtain ⟨th, tu, ⟨tmA, tmc⟩⟩ := t
 obtain ⟨vh, vu, va, ⟨kA, kcp⟩, vo⟩ := v
 simp only at hA hK
 subst hA hK
 have k10 : w.cell? ⟨g, 10, none⟩ = some (.slice (some ⟨gm, off, none⟩) s.marks.length tmc) := h.cell 10
 have k4 : w.cell? ⟨g, 4, none⟩ = some (.slice (some ⟨b, koff, none⟩) C.clauses.length kcp) := h.cell 4
 obtain ⟨ms, ml, mg, mb, mp⟩ := m
 have m0 : w.cell? ⟨gm, off + i * 5, none⟩ = some (.int .i64 ms) := hcell 0 (by omega)
 have m1 : w.cell? ⟨gm, off + i * 5 + 1, none⟩ = some (.int .i64 ml) := hcell 1 (by omega)
 have f0 := hfz (off + i * 5)
 have f1 := hfz (off + i * 5 + 1)
 have c6 : w.cell? ⟨b, koff + i * 16 + 6, none⟩ = some (.int .i64 k.grace) := hkc w h.below 6 (by omega)
 clear hcell hfz hkc
 generalize hn : k.grace = gr at *
 have HN := Lib.hid hn; clear hn
 have hgm := h.gm_ne
 have hbm : b ≠ gm := fun e => by have h1 := h.newM; omega
 have hc := end_any h i _ hm 4
 have HC := Lib.hid hc; clear hc
 have i0 : (0 : Int) ≤ (i : Int) := by omega
 have i1 : (i : Int) < (s.marks.length : Int) := by omega
 have i2 : (i : Int) < (C.clauses.length : Int) := by omega
 have H := Lib.hid h; clear h
 have HM := Lib.hid hm; clear hm
 have HK := Lib.hid hk; clear hk
 cases q1 : (ms == 1) with
 | false =>
  go_enter Tryz.func64, Tryz.ntmps64
  go_wp2_with fail
  refine HC.out.mono ?_
  rintro e z ⟨rfl, hz, hs⟩
  go_wp2
  go_end0
  refine ⟨rfl, ?_, hs⟩
  rw [KMark.expired]
  simp only [q1, Bool.false_and]
  exact hz
 | true =>
  cases q2 : decide (0 < gr) with
  | false =>
   go_enter Tryz.func64, Tryz.ntmps64
   go_wp2_with fail
   refine HC.out.mono ?_
   rintro e z ⟨rfl, hz, hs⟩
   go_wp2
   go_end0
   refine ⟨rfl, ?_, hs⟩
   rw [KMark.expired]
   simp only [q1, q2, Bool.and_false]
   exact hz
  | true =>
   go_enter Tryz.func64, Tryz.ntmps64
   go_wp2
   go_region
   all_goals
    go_wp2
    go_end0
    have h1 := H.out.markCell (j := 0) (m' := ⟨2, ml, mg, mb, mp⟩) (u := .int .i64 2) HM.out (by omega) rfl
    have h2 := h1.markCell (i := i) (j := 1) (m := ⟨2, ml, mg, mb, mp⟩) (m' := ⟨2, gr, mg, mb, mp⟩) (u := .int .i64 gr) (by simp [him]) (by omega) rfl
    simp only [List.set_set, Nat.add_zero] at h2
    refine ⟨rfl, ?_, (((Upd.refl _ _).setCell (.inl (.inr (.inr (.inr rfl)))) _).setCell (.inl (.inr (.inr (.inr rfl)))) _).drew⟩
    rw [KMark.expired]
    simp only [q1, q2, Bool.and_self, cond_true]
    exact h2.keep ((Upd.refl _ _).drew)
end
def KMark.runs (m : KMark) : Bool := (m.status == 1) || (m.status == 2)
set_option maxHeartbeats 400000 in
theorem running_any (m : KMark) (w : World) : Calls Tryz.prog 101 #[.agg #[.int .i64 m.status, .int .i64 m.left, .int .i64 m.got, .int .i64 m.bearer, .bool m.paused]] w (RetB (.bool m.runs) w) := by
 generalize hE : m.runs = E
 cases q1 : (m.status == 1) with
 | true =>
  obtain rfl : E = true := by rw [← hE]; unfold KMark.runs; rw [q1]; rfl
  go_enter Tryz.func101, Tryz.ntmps101
  go_wp2
  go_ret
  exact ⟨rfl, Below.alloc' (Below.refl _ _) _⟩
 | false =>
  obtain rfl : E = (m.status == 2) := by rw [← hE]; unfold KMark.runs; rw [q1]; rfl
  clear hE
  go_enter Tryz.func101, Tryz.ntmps101
  go_wp2
  go_ret
  exact ⟨rfl, Below.alloc' (Below.refl _ _) _⟩
end Go.Proofs.YtaielhafpmjkaaaGreatDoor
namespace Go.Proofs.YtaielhafpmjkaaaGreatDoor
def bearerOf (hs : List Int) (k : KClause) : Int := cond (k.kind == 4) (-1) (holderAt hs k.role)
def liveK (hs : List Int) (k : KClause) : KMark := ⟨1, k.after, 0, bearerOf hs k, false⟩
def firesAt (C : KCon) (ms : List KMark) (i : Nat) : Bool := match C.clauses[i]?, ms[i]? with | some k, some m => readyK ms k m | _, _ => false
def startAt (C : KCon) (hs : List Int) (ms : List KMark) (i : Nat) : List KMark := match C.clauses[i]? with | some k => cond (firesAt C ms i) (ms.set i (liveK hs k)) ms | none => ms
def startTo (C : KCon) (hs : List Int) (ms : List KMark) : Nat → List KMark
 | 0 => ms
 | j + 1 => startAt C hs (startTo C hs ms j) j
def firedTo (C : KCon) (hs : List Int) (ms : List KMark) : Nat → Bool
 | 0 => false
 | j + 1 => firedTo C hs ms j || firesAt C (startTo C hs ms j) j
def idle (ms : List KMark) : Nat := (ms.filter (fun m => m.status == 0)).length
theorem startAt_len (C : KCon) (hs : List Int) (ms : List KMark) (i : Nat) : (startAt C hs ms i).length = ms.length := by
 unfold startAt
 cases C.clauses[i]? with
 | none => rfl
 | some k => cases firesAt C ms i <;> simp
theorem startTo_len (C : KCon) (hs : List Int) (ms : List KMark) : ∀ j, (startTo C hs ms j).length = ms.length
 | 0 => rfl
 | j + 1 => by rw [startTo, startAt_len, startTo_len C hs ms j]
theorem idle_set {l : List KMark} {i : Nat} {m m' : KMark} (hm : l[i]? = some m) (h0 : (m.status == 0) = true) (h1 : (m'.status == 0) = false) : idle (l.set i m') + 1 = idle l := by
 induction l generalizing i with
 | nil => simp at hm
 | cons a l ih =>
  cases i with
  | zero =>
   simp at hm
   subst hm
   simp only [idle, List.set_cons_zero, List.filter_cons, h0, h1, if_true]
   simp
  | succ i =>
   have := ih (i := i) (by simpa using hm)
   simp only [idle, List.set_cons_succ, List.filter_cons] at this ⊢
   split
   · simp only [List.length_cons]
     omega
   · exact this
theorem startAt_idle (C : KCon) (hs : List Int) (ms : List KMark) (i : Nat) : (firesAt C ms i = true → idle (startAt C hs ms i) + 1 = idle ms) ∧ (firesAt C ms i = false → startAt C hs ms i = ms) := by
 refine ⟨fun h => ?_, fun h => ?_⟩
 · have hf := h
   unfold firesAt at hf
   unfold startAt
   cases hk : C.clauses[i]? with
   | none => simp [hk] at hf
   | some k =>
    cases hm : ms[i]? with
    | none => simp [hk, hm] at hf
    | some m =>
     simp only [hk, hm] at hf
     simp only [h, cond_true]
     refine idle_set hm ?_ rfl
     unfold readyK at hf
     simp only [Bool.and_eq_true] at hf
     exact hf.1
 · unfold startAt
   cases hk : C.clauses[i]? with
   | none => rfl
   | some k => simp only [h, cond_false]
theorem startTo_idle (C : KCon) (hs : List Int) (ms : List KMark) : ∀ j, (firedTo C hs ms j = true → idle (startTo C hs ms j) < idle ms) ∧ (firedTo C hs ms j = false → startTo C hs ms j = ms)
 | 0 => ⟨fun h => (by cases h), fun _ => rfl⟩
 | j + 1 => by
  obtain ⟨h1, h2⟩ := startTo_idle C hs ms j
  obtain ⟨h3, h4⟩ := startAt_idle C hs (startTo C hs ms j) j
  refine ⟨fun h => ?_, fun h => ?_⟩
  · rw [firedTo, Bool.or_eq_true] at h
    rw [startTo]
    cases hf : firesAt C (startTo C hs ms j) j with
    | true =>
     have h5 := h3 hf
     cases hg : firedTo C hs ms j with
     | true => have := h1 hg; omega
     | false => rw [h2 hg] at h5 ⊢; omega
    | false =>
     rw [h4 hf]
     rcases h with h | h
     · exact h1 h
     · rw [hf] at h; cases h
  · rw [firedTo, Bool.or_eq_false_iff] at h
    rw [startTo, h4 h.2, h2 h.1]
def startAll (C : KCon) (hs : List Int) : Nat → List KMark → List KMark
 | 0, ms => ms
 | f + 1, ms => cond (firedTo C hs ms C.clauses.length) (startAll C hs f (startTo C hs ms C.clauses.length)) ms
theorem startAll_fuel (C : KCon) (hs : List Int) : ∀ (f f' : Nat) (ms : List KMark), idle ms < f → idle ms < f' → startAll C hs f ms = startAll C hs f' ms
 | 0, _, _, h, _ => by omega
 | _, 0, _, _, h => by omega
 | f + 1, f' + 1, ms, h, h' => by
  rw [startAll, startAll]
  cases hf : firedTo C hs ms C.clauses.length with
  | false => rfl
  | true =>
   have := (startTo_idle C hs ms C.clauses.length).1 hf
   simp only [cond_true]
   exact startAll_fuel C hs f f' _ (by omega) (by omega)
def KCon.begin (C : KCon) (hs : List Int) (ms : List KMark) : List KMark := startAll C hs (idle ms + 1) ms
theorem begin_fired {C : KCon} {hs : List Int} {ms : List KMark} (h : firedTo C hs ms C.clauses.length = true) : C.begin hs ms = C.begin hs (startTo C hs ms C.clauses.length) := by
 have h1 := (startTo_idle C hs ms C.clauses.length).1 h
 unfold KCon.begin
 rw [startAll, h, cond_true]
 exact startAll_fuel C hs _ _ _ h1 (by omega)
theorem begin_still {C : KCon} {hs : List Int} {ms : List KMark} (h : firedTo C hs ms C.clauses.length = false) : C.begin hs ms = ms := by
 unfold KCon.begin
 rw [startAll, h, cond_false]
end Go.Proofs.YtaielhafpmjkaaaGreatDoor
namespace Go.Proofs.YtaielhafpmjkaaaGreatDoor
open Go.RowKit
theorem WorkAt.on {w0 w w' : World} {g : Nat} {v : CV} {C : KCon} {t : TV} {s : KState} {gh gu gm : Nat} (h : WorkAt w0 w g v C t s gh gu gm) (hb : Below w.heap.size w w') : WorkAt w0 w' g v C t s gh gu gm :=
 h.keep ((Upd.of_below hb).mono (fun i hi hk => by omega))
theorem RowAt.toAt {w : World} {e : TypeId} {size n c g : Nat} {A : Option Addr} {xs : List Value} (h : RowAt w e size (.slice A n c) n xs (some g)) (h1 : ∀ u ∈ xs, u.oneCell' = true) : At w size A n c xs := by
 obtain ⟨A', cap, hv, hs⟩ := h.src h1
 obtain ⟨off, hA, hc1, hc2, _⟩ := h.at0
 injection hv with e1 _ e3
 subst e1 e3
 exact ⟨hs, ⟨fun h0 => (by rw [hA] at h0; cases h0), hc1, hc2⟩⟩
theorem WorkAt.state {w0 w : World} {g : Nat} {v : CV} {C : KCon} {t : TV} {s : KState} {gh gu gm : Nat} (h : WorkAt w0 w g v C t s gh gu gm) : StateAt w t s :=
 ⟨h.holders.toAt (fun u hu => by obtain ⟨x, _, rfl⟩ := List.mem_map.1 hu; rfl), h.used.toAt (fun u hu => by obtain ⟨x, _, rfl⟩ := List.mem_map.1 hu; rfl),
  h.marks.toAt (fun u hu => by
   obtain ⟨x, _, hx⟩ := List.mem_flatMap.1 hu
   simp only [KMark.cells, List.mem_cons, List.not_mem_nil, or_false] at hx
   rcases hx with rfl | rfl | rfl | rfl | rfl <;> rfl)⟩
theorem WorkAt.markSet {w0 w : World} {g : Nat} {v : CV} {C : KCon} {th tu : SV} {off tmc : Nat} {s : KState} {gh gu gm : Nat} (h : WorkAt w0 w g v C ⟨th, tu, ⟨some ⟨gm, off, none⟩, tmc⟩⟩ s gh gu gm) {i : Nat} {m : KMark} (hm : s.marks[i]? = some m) (a b c d : Int) (e : Bool) :
 WorkAt w0 (((((w.setCell ⟨gm, off + i * 5, none⟩ (.int .i64 a)).setCell ⟨gm, off + i * 5 + 1, none⟩ (.int .i64 b)).setCell ⟨gm, off + i * 5 + 2, none⟩ (.int .i64 c)).setCell ⟨gm, off + i * 5 + 3, none⟩ (.int .i64 d)).setCell ⟨gm, off + i * 5 + 4, none⟩ (.bool e)) g v C ⟨th, tu, ⟨some ⟨gm, off, none⟩, tmc⟩⟩ ⟨s.day, s.holders, s.used, s.marks.set i ⟨a, b, c, d, e⟩⟩ gh gu gm := by
 have him : i < s.marks.length := (List.getElem?_eq_some_iff.1 hm).1
 obtain ⟨m0, m1, m2, m3, m4⟩ := m
 have h1 := h.markCell (j := 0) (m' := ⟨a, m1, m2, m3, m4⟩) (u := .int .i64 a) hm (by omega) rfl
 have h2 := h1.markCell (i := i) (j := 1) (m := ⟨a, m1, m2, m3, m4⟩) (m' := ⟨a, b, m2, m3, m4⟩) (u := .int .i64 b) (by simp [him]) (by omega) rfl
 have h3 := h2.markCell (i := i) (j := 2) (m := ⟨a, b, m2, m3, m4⟩) (m' := ⟨a, b, c, m3, m4⟩) (u := .int .i64 c) (by simp [him]) (by omega) rfl
 have h4 := h3.markCell (i := i) (j := 3) (m := ⟨a, b, c, m3, m4⟩) (m' := ⟨a, b, c, d, m4⟩) (u := .int .i64 d) (by simp [him]) (by omega) rfl
 have h5 := h4.markCell (i := i) (j := 4) (m := ⟨a, b, c, d, m4⟩) (m' := ⟨a, b, c, d, e⟩) (u := .bool e) (by simp [him]) (by omega) rfl
 simpa only [List.set_set, Nat.add_zero] using h5
theorem WorkAt.holderCell {w0 w : World} {g : Nat} {v : CV} {C : KCon} {t : TV} {s : KState} {gh gu gm : Nat} (h : WorkAt w0 w g v C t s gh gu gm) :
 ∃ off, t.h.A = some ⟨gh, off, none⟩ ∧ gh < w.heap.size ∧ (∀ (i : Nat), i < s.holders.length → w.cell? ⟨gh, off + i, none⟩ = some (.int .i64 (holderAt s.holders i))) := by
 obtain ⟨off, hA, hc1, hc2, hgl, hcell, hfz⟩ := h.holders.at0
 refine ⟨off, hA, hgl, fun i hi => ?_⟩
 rw [hcell _ (by omega)]
 simp [ints, holderAt, hi]
end Go.Proofs.YtaielhafpmjkaaaGreatDoor
namespace Go.Proofs.YtaielhafpmjkaaaGreatDoor
open Go.RowKit
theorem WorkPost.trans' {w0 w w1 : World} {g : Nat} {v : CV} {C : KCon} {t : TV} {s' : KState} {gh gu gm : Nat} {e : Ending} {w' : World} (h : WorkPost w0 g v C t s' gh gu gm w1 e w') (hs : w.heap.size ≤ w1.heap.size) : WorkPost w0 g v C t s' gh gu gm w e w' :=
 ⟨h.1, h.2.1, Nat.le_trans hs h.2.2⟩
set_option maxRecDepth 100000 in
set_option maxHeartbeats 4000000 in
theorem start_any {w0 w : World} {g : Nat} {v : CV} {C : KCon} {t : TV} {s : KState} {gh gu gm : Nat} (h : WorkAt w0 w g v C t s gh gu gm) (hlen : s.marks.length = C.clauses.length)
 (hin : ∀ k ∈ C.clauses, ∀ c ∈ k.start, 0 ≤ c.clause ∧ c.clause < C.clauses.length) (hro : ∀ k ∈ C.clauses, k.kind ≠ 4 → 0 ≤ k.role ∧ k.role < s.holders.length) :
 Calls Tryz.prog 69 #[.pointer (some ⟨g, 0, none⟩)] w (WorkPostU w0 g v C t ⟨s.day, s.holders, s.used, C.begin s.holders s.marks⟩ gh gu gm w) := by
 have HL := Lib.hid hlen; clear hlen
 have HIN := Lib.hid hin; clear hin
 have HRO := Lib.hid hro; clear hro
 obtain ⟨day, holders, used, ms0⟩ := s
 have H := Lib.hid h; clear h
 go_enter Tryz.func69, Tryz.ntmps69
 go_wp2
 go_loopg [2] (idle ms0 + 1) (fun gk v2 wr => ∃ (ms : List KMark) (again : Bool), gk = idle ms + (cond again 1 0) ∧ v2 = .bool again ∧ ms.length = ms0.length ∧ Hid (Upd (Works g gh gu gm) w wr) ∧ Hid (WorkAt w0 wr g v C t ⟨day, holders, used, ms⟩ gh gu gm) ∧ Hid (C.begin holders ms0 = cond again (C.begin holders ms) ms))
 case atStart => exact ⟨ms0, true, rfl, rfl, rfl, Upd.refl _ _, H, rfl⟩
 case round =>
  obtain ⟨ms, again, hgk, rfl, hml, HSZ, HW, HB⟩ := hrel
  have HGK := Lib.hid hgk; clear hgk
  have HML := Lib.hid hml; clear hml
  cases again with
  | false =>
   go_wp2
   go_end0
   refine ⟨rfl, ?_, HSZ.out⟩
   rw [HB.out]
   exact HW.out
  | true =>
   obtain ⟨moff, hmA, hrest⟩ := HW.out.marks.at0
   obtain ⟨hoff, hhA, hrest2⟩ := HW.out.holderCell
   clear hrest hrest2
   obtain ⟨⟨thA, thc⟩, ⟨tuA, tuc⟩, ⟨tmA, tmc⟩⟩ := t
   obtain ⟨⟨vhA, vhc⟩, ⟨vuA, vuc⟩, ⟨vaA, vac⟩, ⟨vkA, vkc⟩, ⟨voA, voc⟩⟩ := v
   simp only at hmA hhA
   subst hmA hhA
   have k4 := HW.out.cell 4
   simp only at k4
   have hcl : C.clauses.length ≤ 9223372036854775807 := by
    obtain ⟨ss, _, h2, _⟩ := HW.out.con.clauses
    have h3 := h2.2.2.1
    have h4 := h2.2.2.2
    unfold maxLen at h4
    omega
   go_wp2
   go_loopg [13, 2] C.clauses.length (fun gk2 v13 v2 wr2 => ∃ (j : Nat), gk2 = C.clauses.length - j ∧ j ≤ C.clauses.length ∧ v13 = .int .i64 j ∧ v2 = .bool (firedTo C holders ms j) ∧ Hid (Upd (Works g gh gu gm) wr wr2) ∧ Hid (WorkAt w0 wr2 g ⟨⟨vhA, vhc⟩, ⟨vuA, vuc⟩, ⟨vaA, vac⟩, ⟨vkA, vkc⟩, ⟨voA, voc⟩⟩ C ⟨⟨some ⟨gh, hoff, none⟩, thc⟩, ⟨tuA, tuc⟩, ⟨some ⟨gm, moff, none⟩, tmc⟩⟩ ⟨day, holders, used, startTo C holders ms j⟩ gh gu gm))
   case atStart => exact ⟨0, rfl, Nat.zero_le _, rfl, rfl, Upd.refl _ _, HW⟩
   case round =>
    obtain ⟨j, hgk2, hj, rfl, rfl, HS2, HW2⟩ := hrel
    have HGK2 := Lib.hid hgk2; clear hgk2
    by_cases hlt : j < C.clauses.length
    · have hmlen : (startTo C holders ms j).length = C.clauses.length := by rw [startTo_len, HML.out, HL.out]
      generalize hM : startTo C holders ms j = M at HW2 hmlen
      have HM := Lib.hid hM; clear hM
      have HML2 := Lib.hid hmlen; clear hmlen
      obtain ⟨m, hm⟩ : ∃ m, M[j]? = some m := ⟨M[j]'(by rw [HML2.out]; exact hlt), List.getElem?_eq_getElem _⟩
      obtain ⟨k, hk⟩ : ∃ k, C.clauses[j]? = some k := ⟨C.clauses[j], List.getElem?_eq_getElem hlt⟩
      have hkm : k ∈ C.clauses := List.mem_of_getElem? hk
      have HR : Hid (k.kind ≠ 4 → 0 ≤ k.role ∧ k.role < holders.length) := HRO.out k hkm
      obtain ⟨b, koff, st, hK, hbl, hkc, _⟩ := HW2.out.con.clause hk
      simp only at hK
      subst hK
      have hkc2 := hkc _ HW2.out.below
      obtain ⟨ki, ro, ac, ne, start, af, gr, bu, fi, pa, re, ⟨vn, vd⟩, un, tg, wa⟩ := k
      obtain ⟨stA, stc⟩ := st
      obtain ⟨c0, c1, c2, c3, c4, c5, c6, c7, c8, c9, c10, c11, c12, c13, c14, c15⟩ := rw16 hkc2 rfl
      clear hkc2 hkc
      generalize hR : readyK M ⟨ki, ro, ac, ne, start, af, gr, bu, fi, pa, re, ⟨vn, vd⟩, un, tg, wa⟩ m = R
      have HRD := Lib.hid hR; clear hR
      have HK := Lib.hid hk; clear hk
      have HMJ := Lib.hid hm; clear hm
      clear hkm
      have j0 : (0 : Int) ≤ (j : Int) := by omega
      have j1 : (j : Int) < (C.clauses.length : Int) := by omega
      go_upto_region 6 with (fail)
      generalize hW0 : World.alloc _ _ = W0
      obtain ⟨HB0, hh0⟩ := bx1 hW0
      have HW0 := Lib.hid hW0.symm
      clear hW0
      change Code.wp _ _ _ _ (Bl.val (⟨W0, Below.refl _ _⟩ : Bl W0))
      generalize (⟨W0, Below.refl _ _⟩ : Bl W0) = s0
      clear c0 c1 c2 c3 c4 c5 c6 c7 c8 c9 c10 c11 c12 c13 c14 c15 k4
      have b0 : ∀ z : Bl W0, z.val.cell? ⟨wr.heap.size, 0, none⟩ = some (.int .i64 ki) := fun z => z.cell ((cell_of_row W0 _ 0 _ _ _ hh0).trans rfl)
      have b1 : ∀ z : Bl W0, z.val.cell? ⟨wr.heap.size, 1, none⟩ = some (.int .i64 ro) := fun z => z.cell ((cell_of_row W0 _ 1 _ _ _ hh0).trans rfl)
      have b5 : ∀ z : Bl W0, z.val.cell? ⟨wr.heap.size, 5, none⟩ = some (.int .i64 af) := fun z => z.cell ((cell_of_row W0 _ 5 _ _ _ hh0).trans rfl)
      clear hh0
      have HWZ : Hid (∀ z : Bl W0, WorkAt w0 z.val g ⟨⟨vhA, vhc⟩, ⟨vuA, vuc⟩, ⟨vaA, vac⟩, ⟨some ⟨b, koff, none⟩, vkc⟩, ⟨voA, voc⟩⟩ C ⟨⟨some ⟨gh, hoff, none⟩, thc⟩, ⟨tuA, tuc⟩, ⟨some ⟨gm, moff, none⟩, tmc⟩⟩ ⟨day, holders, used, M⟩ gh gu gm) := fun z => HW2.out.on (Below.step HB0.out z.prop)
      have g0 : ∀ z : Bl W0, z.val.cell? ⟨g, 0, none⟩ = some (.int .i64 C.parties) := fun z => (HWZ.out z).cell 0
      have g1 : ∀ z : Bl W0, z.val.cell? ⟨g, 1, none⟩ = some (.slice vhA C.holders.length vhc) := fun z => (HWZ.out z).cell 1
      have g2 : ∀ z : Bl W0, z.val.cell? ⟨g, 2, none⟩ = some (.slice vuA C.units.length vuc) := fun z => (HWZ.out z).cell 2
      have g3 : ∀ z : Bl W0, z.val.cell? ⟨g, 3, none⟩ = some (.slice vaA C.acts.length vac) := fun z => (HWZ.out z).cell 3
      have g4 : ∀ z : Bl W0, z.val.cell? ⟨g, 4, none⟩ = some (.slice (some ⟨b, koff, none⟩) C.clauses.length vkc) := fun z => (HWZ.out z).cell 4
      have g5 : ∀ z : Bl W0, z.val.cell? ⟨g, 5, none⟩ = some (.int .i64 C.days) := fun z => (HWZ.out z).cell 5
      have g6 : ∀ z : Bl W0, z.val.cell? ⟨g, 6, none⟩ = some (.slice voA C.off.length voc) := fun z => (HWZ.out z).cell 6
      have g7 : ∀ z : Bl W0, z.val.cell? ⟨g, 7, none⟩ = some (.int .i64 day) := fun z => (HWZ.out z).cell 7
      have g8 : ∀ z : Bl W0, z.val.cell? ⟨g, 8, none⟩ = some (.slice (some ⟨gh, hoff, none⟩) holders.length thc) := fun z => (HWZ.out z).cell 8
      have g9 : ∀ z : Bl W0, z.val.cell? ⟨g, 9, none⟩ = some (.slice tuA used.length tuc) := fun z => (HWZ.out z).cell 9
      have g10 : ∀ z : Bl W0, z.val.cell? ⟨g, 10, none⟩ = some (.slice (some ⟨gm, moff, none⟩) M.length tmc) := fun z => (HWZ.out z).cell 10
      have hrd : ∀ z : Bl W0, Calls Tryz.prog 46 #[.agg #[.int .i64 C.parties, .slice vhA C.holders.length vhc, .slice vuA C.units.length vuc, .slice vaA C.acts.length vac, .slice (some ⟨b, koff, none⟩) C.clauses.length vkc, .int .i64 C.days, .slice voA C.off.length voc], .agg #[.int .i64 day, .slice (some ⟨gh, hoff, none⟩) holders.length thc, .slice tuA used.length tuc, .slice (some ⟨gm, moff, none⟩) M.length tmc], .int .i64 j] z.val (RetB (.bool R) z.val) := fun z => by
       have h := ready_any (⟨⟨vhA, vhc⟩, ⟨vuA, vuc⟩, ⟨vaA, vac⟩, ⟨some ⟨b, koff, none⟩, vkc⟩, ⟨voA, voc⟩⟩ : CV) C (⟨⟨some ⟨gh, hoff, none⟩, thc⟩, ⟨tuA, tuc⟩, ⟨some ⟨gm, moff, none⟩, tmc⟩⟩ : TV) ⟨day, holders, used, M⟩ j ⟨ki, ro, ac, ne, start, af, gr, bu, fi, pa, re, ⟨vn, vd⟩, un, tg, wa⟩ m z.val ((HWZ.out z).con.below (HWZ.out z).below) (HWZ.out z).state HK.out HMJ.out (fun c hc => by rw [show (KState.mk day holders used M).marks = M from rfl, HML2.out]; exact HIN.out _ (List.mem_of_getElem? HK.out) c hc)
       rw [show readyK (KState.mk day holders used M).marks ⟨ki, ro, ac, ne, start, af, gr, bu, fi, pa, re, ⟨vn, vd⟩, un, tg, wa⟩ m = R from HRD.out] at h
       exact h
      have HRC := Lib.hid hrd; clear hrd
      have HF : Hid (firesAt C (startTo C holders ms j) j = R) := by show _ = _; rw [HM.out]; unfold firesAt; simp only [HK.out, HMJ.out]; exact HRD.out
      have HSX : ∀ z : Bl W0, Hid (wr.heap.size < z.val.heap.size) := fun z => by
       have h1 := z.prop.size
       have h2 : W0.heap.size = wr.heap.size + 1 := by rw [HW0.out]; simp
       show _ < _
       omega
      have HUX : ∀ z : Bl W0, Hid (Upd (Works g gh gu gm) wr z.val) := fun z => (Upd.of_below (Below.step HB0.out z.prop)).mono (fun i hi hk => by omega)
      have hgm : Works g gh gu gm gm := .inr (.inr (.inr rfl))
      cases R with
      | false =>
       refine wp_region_bl (by kernel_rfl) (by kernel_rfl) ?_; (repeat (go_big_quiet_step (((go_at_call 46; exact Calls.bl_of (HRC.out _)))))); refine wpQuiet_nil ?_; rintro _ ⟨zq, rfl⟩
       go_wp2
       go_roundg (C.clauses.length - (j + 1))
       case measure => rw [HGK2.out]; omega
       case rel => exact ⟨j + 1, rfl, by omega, by go_num, by rw [firedTo, HF.out, Bool.or_false], HS2.out.trans (HUX zq).out (fun _ _ h => h), by
        show WorkAt _ _ _ _ _ _ _ _ _ _
        rw [startTo, (startAt_idle C holders (startTo C holders ms j) j).2 HF.out, HM.out]
        exact HWZ.out zq⟩
      | true =>
       refine wp_region_bl (by kernel_rfl) (by kernel_rfl) ?_; (repeat (go_big_quiet_step (((go_at_call 46; exact Calls.bl_of (HRC.out _)))))); refine wpQuiet_nil ?_; rintro _ ⟨zq, rfl⟩
       obtain ⟨moff', hmA', hgl', hcell', hfz'⟩ := (HWZ.out zq).markAt HMJ.out
       simp only [Option.some.injEq, Addr.mk.injEq, true_and, and_true] at hmA'
       subst hmA'
       obtain ⟨m0, m1, m2, m3, m4⟩ := m
       obtain ⟨x0, x1, x2, x3, x4⟩ := rw5 hcell' rfl
       have f0 := hfz' (moff + j * 5)
       have f1 := hfz' (moff + j * 5 + 1)
       have f2 := hfz' (moff + j * 5 + 2)
       have f3 := hfz' (moff + j * 5 + 3)
       have f4 := hfz' (moff + j * 5 + 4)
       clear hcell' hfz'
       have hszq := (HSX zq).out
       have j2 : (j : Int) < (M.length : Int) := by rw [HML2.out]; exact j1
       cases q4 : (ki == 4) with
       | true =>
        have q4b : (ki != 4) = false := by simpa using q4
        go_wp2
        go_region
        all_goals
         go_wp2
         go_roundg (C.clauses.length - (j + 1))
         case measure => rw [HGK2.out]; omega
         case rel => exact ⟨j + 1, rfl, by omega, by go_num, by rw [firedTo, HF.out, Bool.or_true], HS2.out.trans ((((((HUX zq).out.setCell (.inl hgm) _).setCell (.inl hgm) _).setCell (.inl hgm) _).setCell (.inl hgm) _).setCell (.inl hgm) _).drew (fun _ _ h => h), by
          show WorkAt _ _ _ _ _ _ _ _ _ _
          have hbo : bearerOf holders ⟨ki, ro, ac, ne, start, af, gr, bu, fi, pa, re, ⟨vn, vd⟩, un, tg, wa⟩ = -1 := by unfold bearerOf; simp only [q4]; rfl
          have h8 := (HWZ.out zq).markSet HMJ.out 1 af 0 (-1) false
          have hf2 : firesAt C M j = true := by rw [← HM.out]; exact HF.out
          simp only [startTo, startAt, HK.out, HM.out, hf2, cond_true, liveK, hbo]
          exact h8.keep ((Upd.refl _ _).drew)⟩
       | false =>
        have q4b : (ki != 4) = true := by simpa using q4
        obtain ⟨r0, r1⟩ := HR.out (by simpa using q4)
        simp only at r0 r1
        obtain ⟨hoff', hhA', hhl', hhc'⟩ := (HWZ.out zq).holderCell
        simp only [Option.some.injEq, Addr.mk.injEq, true_and, and_true] at hhA'
        subst hhA'
        have y0 : zq.val.cell? ⟨gh, hoff + ro.toNat, none⟩ = some (.int .i64 (holderAt holders ro)) := by have h := hhc' ro.toNat (show ro.toNat < holders.length by omega); rwa [Int.toNat_of_nonneg r0] at h
        clear hhc'
        go_wp2
        go_quiet (fail)
        go_wp2
        go_region
        all_goals
         go_wp2
         go_roundg (C.clauses.length - (j + 1))
         case measure => rw [HGK2.out]; omega
         case rel => exact ⟨j + 1, rfl, by omega, by go_num, by rw [firedTo, HF.out, Bool.or_true], HS2.out.trans (((((((HUX zq).out.drewN (nq + 1)).setCell (.inl hgm) _).setCell (.inl hgm) _).setCell (.inl hgm) _).setCell (.inl hgm) _).setCell (.inl hgm) _) (fun _ _ h => h), by
          show WorkAt _ _ _ _ _ _ _ _ _ _
          have hbo : bearerOf holders ⟨ki, ro, ac, ne, start, af, gr, bu, fi, pa, re, ⟨vn, vd⟩, un, tg, wa⟩ = holderAt holders ro := by unfold bearerOf; simp only [q4]; rfl
          have h8 := ((HWZ.out zq).keep ((Upd.refl _ _).drewN (nq + 1))).markSet HMJ.out 1 af 0 (holderAt holders ro) false
          have hf2 : firesAt C M j = true := by rw [← HM.out]; exact HF.out
          simp only [startTo, startAt, HK.out, HM.out, hf2, cond_true, liveK, hbo]
          exact h8⟩
    · obtain rfl : j = C.clauses.length := by omega
      go_wp2
      cases q : firedTo C holders ms C.clauses.length with
      | true =>
       have h1 := (startTo_idle C holders ms C.clauses.length).1 q
       go_roundg (idle (startTo C holders ms C.clauses.length) + 1)
       case measure => rw [HGK.out]; simp only [cond_true]; omega
       case rel => exact ⟨_, true, rfl, rfl, by rw [startTo_len, HML.out], HSZ.out.trans HS2.out (fun _ _ h => h), HW2, by show _ = _; rw [HB.out, cond_true, cond_true, begin_fired q]⟩
      | false =>
       go_roundg (idle (startTo C holders ms C.clauses.length))
       case measure => rw [HGK.out, (startTo_idle C holders ms C.clauses.length).2 q]; simp only [cond_true]; omega
       case rel => exact ⟨_, false, rfl, rfl, by rw [startTo_len, HML.out], HSZ.out.trans HS2.out (fun _ _ h => h), HW2, by show _ = _; rw [HB.out, cond_true, cond_false, begin_still q, (startTo_idle C holders ms C.clauses.length).2 q]⟩
end Go.Proofs.YtaielhafpmjkaaaGreatDoor
namespace Go.Proofs.YtaielhafpmjkaaaGreatDoor
open Go.RowKit
def doerOf (hs : List Int) (a : KAct) : Int := cond (a.role == -1) (-1) (holderAt hs a.role)
set_option maxRecDepth 100000 in
set_option maxHeartbeats 4000000 in
theorem doer_any (v : CV) (C : KCon) (tv : TV) (s : KState) (i : Nat) (a : KAct) (w : World) (hC : ConAt w v C) (hS : StateAt w tv s) (ha : C.acts[i]? = some a) (hr : a.role ≠ -1 → 0 ≤ a.role ∧ a.role < s.holders.length) :
 Calls Tryz.prog 72 #[v.val C, tv.val s, .int .i64 i] w (RetB (.int .i64 (doerOf s.holders a)) w) := by
 have hil : i < C.acts.length := (List.getElem?_eq_some_iff.1 ha).1
 obtain ⟨b, off, hA0, hb, hcell⟩ := hC.act ha
 obtain ⟨⟨hA, hcp⟩, ⟨uA, ucp⟩, ⟨aA, acp⟩, ⟨kA, kcp⟩, ⟨oA, ocp⟩⟩ := v
 obtain ⟨⟨shA, shc⟩, ⟨suA, suc⟩, ⟨smA, smc⟩⟩ := tv
 simp only at hA0
 subst hA0
 obtain ⟨ki, ro, gi, tg, un, ⟨ln, ld⟩⟩ := a
 have HS := Lib.hid hS; clear hS
 have HR := Lib.hid hr; clear hr
 clear hC
 simp only [CV.val, CV.cells, TV.val, TV.cells, KState.cells]
 have i0 : (0 : Int) ≤ (i : Int) := by omega
 have i1 : (i : Int) < (C.acts.length : Int) := by omega
 generalize hE : doerOf s.holders ⟨ki, ro, gi, tg, un, ⟨ln, ld⟩⟩ = E
 have HE := Lib.hid hE; clear hE
 go_enter Tryz.func72, Tryz.ntmps72
 go_upto_region 1 with (fail)
 generalize hW0 : World.alloc _ _ = W0
 obtain ⟨HB, hh0, hh1⟩ := bx2 hW0
 clear hW0
 have k0 := kcell (i := 3) hh0 rfl
 clear hh0
 have k1 := kcell (i := 1) hh1 rfl
 clear hh1
 change Code.wp _ _ _ _ (Bl.val (⟨W0, Below.refl _ _⟩ : Bl W0))
 generalize (⟨W0, Below.refl _ _⟩ : Bl W0) = s0
 have c1 : ∀ z : Bl W0, z.val.cell? ⟨b, off + i * 7 + 1, none⟩ = some (.int .i64 ro) := fun z => hcell z.val (Below.step HB.out z.prop) 1 (by omega)
 clear hcell
 have HA := Lib.hid ha; clear ha
 cases q : (ro == -1) with
 | true =>
  obtain rfl : E = -1 := by rw [← HE.out]; unfold doerOf; simp only [q]; rfl
  go_wp2
  go_ret
  exact ⟨rfl, Below.step HB.out (Bl.prop _)⟩
 | false =>
  obtain rfl : E = holderAt s.holders ro := by rw [← HE.out]; unfold doerOf; simp only [q]; rfl
  obtain ⟨r0, r1⟩ := HR.out (by simpa using q)
  simp only at r0 r1
  obtain ⟨hb2, hoff, hH, hlt, hhc⟩ := HS.out.holders.1.form (by omega) (by omega)
  simp only at hH
  subst hH
  have y0 : ∀ z : Bl W0, z.val.cell? ⟨hb2, hoff + ro.toNat, none⟩ = some (.int .i64 (holderAt s.holders ro)) := fun z => by
   rw [(bcell (Below.step HB.out z.prop)).1 _ _ hlt, hhc _ (by omega)]
   have hx : ro.toNat < s.holders.length := by omega
   simp [ints, holderAt, hx]
  clear hhc
  go_wp2
  go_quiet (fail)
  go_wp2
  go_ret
  exact ⟨rfl, (Below.step HB.out (Bl.prop _)).trans (below_drewN _ _ |>.mono (Below.step HB.out (Bl.prop _)).size)⟩
end Go.Proofs.YtaielhafpmjkaaaGreatDoor
