/-
  CuD; CuE; CuF; CuG
-/
import Derived.Test.YtahhdjeclbagnaaGreatDoorQ42
import Derived.Test.YtahhdjeclbagnaaGreatDoorQ37
import Derived.Test.YtahhdjeclbagnaaGreatDoorQ38
import Derived.Test.YtahhdjeclbagnaaGreatDoorQ30
namespace Go.Proofs.YtahhdjeclbagnaaGreatDoor
open Go.RowKit Go.Shelf
def exA : KAct := ⟨1, 0, 0, -1, -1, ⟨0, 1⟩⟩
def exC : KCon := ⟨2, [0, 1], [], [exA, exA], [], 3, []⟩
def exL : List KFact := [⟨1, 0, 0, 1, 0, false⟩, ⟨2, 1, 0, 2, 0, false⟩]
def exO : List KBef := [⟨1, 2⟩]
def exF : KFile := ⟨0, exL, exO⟩
theorem exOkF : okFile exC exF = true := by decide +kernel
theorem fine_of {L : List KFact} {O : List KBef} {T F : List KFact} (hs : SameP L) (ho : O.Pairwise ltB) (hF : joinedF L = F) (ht : Tight F T O) (hl : ∀ t ∈ T, t.low ≤ t.high) : Fine L O T O :=
 ⟨hs, ⟨ho, fun _ => Iff.rfl⟩, by rw [hF]; exact ht, hl⟩
theorem exOrd : exO.Pairwise ltB := by simp [exO]
theorem exKnown {L : List KFact} {O : List KBef} (h : ∀ b ∈ O, b = ⟨1, 2⟩) (h1 : ∃ x ∈ L, x.ref = 1) (h2 : ∃ x ∈ L, x.ref = 2) : KnownL L O := fun b hb => by
 rw [h b hb]
 exact ⟨h1, h2⟩
theorem exSame {L : List KFact} (h : ∀ x ∈ L, x.act = x.ref - 1) : SameP L := fun x hx y hy e => by rw [h x hx, h y hy, e]
theorem exFine1 : Fine exL exO exL exO := by
 refine fine_of (F := exL) (exSame (by simp [exL])) exOrd (by decide +kernel) ?_ (by simp [exL])
 exact ⟨rfl, by simp [exL], by simp [exL], by simp [exL, exO], by simp [exL, exO], fun m h _ => by simpa [exL] using h, fun m h _ => by simpa [exL] using h⟩
def exT2 : List KFact := [⟨1, 0, 0, 0, 0, false⟩, ⟨2, 1, 0, 0, 0, false⟩]
theorem exFine2 : Fine (exL ++ [⟨2, 1, 0, 0, 0, false⟩]) exO exT2 exO := by
 refine fine_of (F := [⟨1, 0, 0, 1, 0, false⟩, ⟨2, 1, 0, 0, 0, false⟩]) (exSame (by simp [exL])) exOrd (by decide +kernel) ?_ (by simp [exT2])
 refine ⟨rfl, by simp [exT2], by simp [exT2], by simp [exT2, exO], by simp [exT2, exO], fun m h _ => by simpa [exT2] using h, fun m h k => ?_⟩
 simp [exT2, exO] at h k ⊢
 omega
def exT3 : List KFact := [⟨1, 0, 1, 1, 0, false⟩, ⟨2, 1, 1, 2, 0, false⟩]
theorem exFine3 : Fine (exL ++ [⟨1, 0, 1, 1, 0, false⟩]) exO exT3 exO := by
 refine fine_of (F := [⟨1, 0, 1, 1, 0, false⟩, ⟨2, 1, 0, 2, 0, false⟩]) (exSame (by simp [exL])) exOrd (by decide +kernel) ?_ (by simp [exT3])
 refine ⟨rfl, by simp [exT3], by simp [exT3], by simp [exT3, exO], by simp [exT3, exO], fun m h k => ?_, fun m h _ => by simpa [exT3] using h⟩
 simp [exT3, exO] at h k ⊢
 omega
theorem exFine4 : Fine (exL ++ [⟨2, 1, 1, 2, 0, false⟩]) exO [⟨1, 0, 0, 1, 0, false⟩, ⟨2, 1, 1, 2, 0, false⟩] exO := by
 refine fine_of (F := [⟨1, 0, 0, 1, 0, false⟩, ⟨2, 1, 1, 2, 0, false⟩]) (exSame (by simp [exL])) exOrd (by decide +kernel) ?_ (by simp)
 exact ⟨rfl, by simp, by simp, by simp [exO], by simp [exO], fun m h _ => by simpa using h, fun m h _ => by simpa using h⟩
theorem exFine5 : Fine ([⟨2, 1, 0, 0, 0, false⟩] ++ [⟨1, 0, 1, 1, 0, false⟩]) [] [⟨1, 0, 1, 1, 0, false⟩, ⟨2, 1, 0, 0, 0, false⟩] [] := by
 refine fine_of (F := [⟨1, 0, 1, 1, 0, false⟩, ⟨2, 1, 0, 0, 0, false⟩]) (exSame (by simp)) List.Pairwise.nil (by decide +kernel) ?_ (by simp)
 exact ⟨rfl, by simp, by simp, by simp, by simp, fun m h _ => by simpa using h, fun m h _ => by simpa using h⟩
theorem exEvid6 : Evid ([⟨2, 1, 0, 0, 0, false⟩] ++ [⟨2, 1, 1, 2, 0, false⟩]) [] := by
 refine .inr ⟨[⟨2, 1, 1, 0, 0, false⟩], [], ⟨List.Pairwise.nil, fun _ => Iff.rfl⟩, ?_, _, List.mem_singleton.2 rfl, by decide⟩
 rw [show joinedF ([⟨2, 1, 0, 0, 0, false⟩] ++ [⟨2, 1, 1, 2, 0, false⟩]) = [⟨2, 1, 1, 0, 0, false⟩] by decide +kernel]
 exact ⟨rfl, by simp, by simp, by simp, by simp, fun m h _ => by simpa using h, fun m h _ => by simpa using h⟩
theorem exEvid7 : Evid (exL ++ [⟨1, 1, 0, 0, 0, false⟩]) exO := .inl (fun h => by
 have := h ⟨1, 0, 0, 1, 0, false⟩ (by simp [exL]) ⟨1, 1, 0, 0, 0, false⟩ (by simp) rfl
 simp at this)
def exY : List (List Int) := [[0, 0], [0, 1], [1, 1]]
theorem exChoices : IsChoices exL exO 1 exY := by
 refine ⟨by simp [exY, lexLt], fun d => ⟨fun h => ?_, ?_⟩⟩
 · simp only [exY, List.mem_cons, List.not_mem_nil, or_false] at h
   rcases h with rfl | rfl | rfl
   · exact ⟨fun _ => 0, rfl, ⟨(by simp [exL]; try omega), (by simp [exL]; try omega), by simp [exO]⟩⟩
   · exact ⟨fun r => if r = 1 then 0 else 1, rfl, ⟨(by simp [exL]; try omega), (by simp [exL]; try omega), by simp [exO]⟩⟩
   · exact ⟨fun _ => 1, rfl, ⟨(by simp [exL]; try omega), (by simp [exL]; try omega), by simp [exO]⟩⟩
 · rintro ⟨day, rfl, h1, h2, h3⟩
   simp [exL, exO] at h1 h2 h3
   simp only [exY, daysOf, exL, List.map_cons, List.map_nil, List.mem_cons, List.not_mem_nil, or_false, List.cons.injEq, and_true]
   omega
def exR : List (List Int) := [[0, 1, -1], [0, -1], [-1]]
theorem exCompl {L : List (List Int)} {er : Int} (h : ComplIs exC exF 1 L er) : er = 0 ∧ L = exR := by
 have hk : KnownL exL exO := exKnown (by simp [exO]) (by simp [exL]) (by simp [exL])
 rcases h with ⟨_, _, h⟩ | ⟨_, _, _, ⟨_, _, h⟩ | ⟨T, OO, Y, hf, hy, h⟩⟩
 · exact absurd ⟨exOkF, by omega, by simp [exC]⟩ h
 · exact absurd h (exFine1.notEvid hk)
 · obtain ⟨rfl, rfl⟩ := hf.unique exFine1 hk
   obtain rfl := hy.unique exChoices
   rcases h with ⟨_, _, h⟩ | ⟨h1, _, h2⟩
   · simp [exY] at h
   · exact ⟨h1, by rw [h2]; decide +kernel⟩
theorem exJoin {f : KFile} {T : List KFact} {ho : Int} {F : List KFact} {O : List KBef} {er : Int} (hok : okFile exC f = true) (hO : f.orders = []) (hf : Fine (exL ++ f.facts) exO T exO) (h : JoinRes exC [exF, f] ho F O er) : er = 0 ∧ F = T := by
 have e1 : factsOf [exF, f] = exL ++ f.facts := by simp [factsOf, exF]
 have e2 : ordersOf [exF, f] = exO := by simp [ordersOf, exF, hO]
 have hk : KnownL (exL ++ f.facts) exO := exKnown (by simp [exO]) (by simp [exL]) (by simp [exL])
 rcases h with ⟨_, _, _, _, h⟩ | ⟨_, f0, _, h⟩
 · exact absurd ⟨by simp, fun g hg => by simp at hg; rcases hg with rfl | rfl; exact exOkF; exact hok⟩ h
 · rw [e1, e2] at h
   rcases h with ⟨h1, _, h2⟩ | ⟨_, _, _, _, h2⟩
   · exact ⟨h1, (h2.unique hf hk).1⟩
   · exact absurd h2 (hf.notEvid hk)
theorem exJoinE {f : KFile} {ho : Int} {F : List KFact} {O : List KBef} {er : Int} (hok : okFile exC f = true) (hO : f.orders = []) (hf : Evid (exL ++ f.facts) exO) (h : JoinRes exC [exF, f] ho F O er) : er = 23 := by
 have e1 : factsOf [exF, f] = exL ++ f.facts := by simp [factsOf, exF]
 have e2 : ordersOf [exF, f] = exO := by simp [ordersOf, exF, hO]
 have hk : KnownL (exL ++ f.facts) exO := exKnown (by simp [exO]) (by simp [exL]) (by simp [exL])
 rcases h with ⟨_, _, _, _, h⟩ | ⟨_, f0, _, h⟩
 · exact absurd ⟨by simp, fun g hg => by simp at hg; rcases hg with rfl | rfl; exact exOkF; exact hok⟩ h
 · rw [e1, e2] at h
   rcases h with ⟨_, _, h2⟩ | ⟨h1, _⟩
   · exact absurd hf (h2.notEvid hk)
   · exact h1
def exG1 : KFile := ⟨0, [⟨2, 1, 0, 0, 0, false⟩], []⟩
def exG2 : KFile := ⟨0, [⟨1, 0, 1, 1, 0, false⟩], []⟩
def exG3 : KFile := ⟨0, [⟨2, 1, 1, 2, 0, false⟩], []⟩
theorem exConflict {i j : Int} {b : Bool} (h : ConflictIs exC [exF, exG1, exG2, exG3] i j b) : i = 1 ∧ j = 3 ∧ b = true := by
 have o1 : okFile exC exG1 = true := by decide +kernel
 have o3 : okFile exC exG3 = true := by decide +kernel
 have hk : ∀ f : KFile, KnownL (exL ++ f.facts) exO := fun f => exKnown (by simp [exO]) (by simp [exL]) (by simp [exL])
 have c : Clash exC exG1 exG3 := ⟨o1, o3, exEvid6⟩
 have n1 : ¬ Clash exC exF exG1 := fun h => exFine2.notEvid (hk exG1) h.2.2
 have n2 : ¬ Clash exC exF exG2 := fun h => exFine3.notEvid (hk exG2) h.2.2
 have n3 : ¬ Clash exC exF exG3 := fun h => exFine4.notEvid (hk exG3) h.2.2
 have n4 : ¬ Clash exC exG1 exG2 := fun h => exFine5.notEvid (fun b hb => by cases hb) h.2.2
 rcases h with ⟨_, _, _, h⟩ | ⟨hb, m, n, f, g, rfl, rfl, hmn, hf, hg, hc, hN⟩
 · exact absurd c (h 1 3 exG1 exG3 (by omega) (by simp) rfl rfl)
 · have hm4 : n < 4 := by have := (List.getElem?_eq_some_iff.1 hg).1; simpa using this
   have hlt : ¬ (1 < m ∨ (m = 1 ∧ 3 < n)) := fun h => hN 1 3 exG1 exG3 (by omega) (by omega) rfl rfl c
   have hm : m = 0 ∨ m = 1 := by omega
   rcases hm with rfl | rfl
   · obtain rfl : exF = f := by simpa using hf
     have hn : n = 1 ∨ n = 2 ∨ n = 3 := by omega
     rcases hn with rfl | rfl | rfl
     · obtain rfl : exG1 = g := by simpa using hg
       exact absurd hc n1
     · obtain rfl : exG2 = g := by simpa using hg
       exact absurd hc n2
     · obtain rfl : exG3 = g := by simpa using hg
       exact absurd hc n3
   · obtain rfl : exG1 = f := by simpa using hf
     have hn : n = 2 ∨ n = 3 := by omega
     rcases hn with rfl | rfl
     · obtain rfl : exG2 = g := by simpa using hg
       exact absurd hc n4
     · exact ⟨rfl, rfl, hb⟩
end Go.Proofs.YtahhdjeclbagnaaGreatDoor
namespace Go.Proofs.YtahhdjeclbagnaaGreatDoor
open Go.RowKit Go.Shelf
attribute [local go_sem] stillB stillUpon makesUpon
theorem beginM_cons {l : List Int} {k : Nat} {x n : Int} (hx : l[k]? = some x) (hn : 0 < n) : beginM (l.drop k) n = x :: beginM (l.drop (k + 1)) (if x = -1 then n - 1 else n) := by
 obtain ⟨h, rfl⟩ := List.getElem?_eq_some_iff.1 hx
 rw [List.drop_eq_getElem_cons h, beginM, if_pos hn]
theorem beginM_none {l : List Int} {k : Nat} {n : Int} (h : l.length ≤ k ∨ ¬ 0 < n) : beginM (l.drop k) n = [] := by
 rcases h with h | h
 · rw [List.drop_eq_nil_of_le h, beginM]
 · cases l.drop k with
   | nil => rfl
   | cons a l => rw [beginM, if_neg h]
set_option maxRecDepth 100000 in
set_option maxHeartbeats 4000000 in
theorem begin_any (l : List Int) (n : Int) (A : Option Addr) (c : Nat) (w : World) (hA : At w 1 A l.length c (ints l)) (hl : l.length ≤ 100000) (hn : n ≤ 9223372036854775807) :
 Calls Tryz.prog 20 #[.slice A l.length c, .int .i64 n] w (RowPost (beginM l n) w) := by
 have HA := Lib.hid hA; clear hA
 obtain ⟨E, HE⟩ : ∃ E, Hid (beginM l n = E) := ⟨_, rfl⟩
 rw [HE.out]
 obtain ⟨ii, hii, hiz, his, hib⟩ := info_parts' (P := Tryz.prog) (t := 3) (z := some (.int .i64 0)) (s := 1) (b := 8) (by kernel_rfl)
 go_enter Tryz.func20, Tryz.ntmps20
 go_wp2
 go_loopg [1, 5, 6] l.length (fun gk v1 v5 v6 wr => ∃ (k : Nat) (m : Int) (R : List Int) (A' : Option Addr) (c' : Nat), gk = l.length - k ∧ k ≤ l.length ∧ v6 = .int .i64 k ∧ v1 = .int .i64 m ∧ v5 = .slice A' R.length c' ∧ m ≤ 9223372036854775807 ∧ R.length ≤ k ∧ Hid (E = R ++ beginM (l.drop k) m) ∧ Hid (wr.ownsRow w.heap.size 3 1 (.slice A' R.length c') R.length (ints R)) ∧ Hid (Below w.heap.size w wr))
 case atStart => exact ⟨0, n, [], none, 0, rfl, Nat.zero_le _, rfl, rfl, rfl, hn, Nat.le_refl _, (by show _ = _; rw [List.nil_append, List.drop_zero, HE.out]), World.ownsRow_nil _ _ _ _, Below.refl _ _⟩
 case round =>
  clear hn
  obtain ⟨k, m, R, A', c', hgk, hk, rfl, rfl, rfl, hm, hrk, HR, HRO, HBW⟩ := hrel
  have HGK := Lib.hid hgk; clear hgk
  by_cases hlt : k < l.length
  · have k1 : (k : Int) < (l.length : Int) := by omega
    by_cases hm0 : 0 < m
    · obtain ⟨x, hx⟩ : ∃ x, l[k]? = some x := ⟨_, List.getElem?_eq_getElem hlt⟩
      obtain ⟨b, off, hbA, hbl, hc0⟩ := (HA.out.below (by omega) HBW.out).1.form (by omega) (by omega)
      subst hbA
      have e0 : wr.cell? ⟨b, off + k, none⟩ = some (.int .i64 x) := (hc0 k (by omega)).trans (ints_get hx)
      have hBW' := HBW.out.size
      have HX := Lib.hid hx
      clear hx hc0
      go_wp2_with (at_builtin; refine wpList_append_oneX rfl _ _ 22 rfl 3 ii (.int .i64 0) 1 8 Tryz.underlying22 hii hiz his hib rfl (by decide) w.heap.size _ _ _ rfl HRO.out [.int .i64 x] _ rfl rfl (by intro u hu; simp only [List.mem_singleton] at hu; subst hu; rfl) rfl (by unfold maxLen; omega) (by omega) hBW' ?_; intro g6 c6 w6 h1 h2; refine Hid.out ?_)
      refine Lib.hid ?_
      have HU6 : Hid (Upd (fun k => (Value.slice A' R.length c').ownBlock = some k) wr w6) := Upd.trans ((Upd.refl _ wr).alloc _) (Upd.of_grown h2) (fun i _ h => h)
      have HB6 : Hid (Below w.heap.size w w6) := HBW.out.trans (HU6.out.below hBW' (fun k hk => (HRO.out.lt k hk).1))
      have HL6 : Hid ((R ++ [x]).length = R.length + 1) := by show _ = _; simp
      have HR6 : Hid (w6.ownsRow w.heap.size 3 1 (.slice (some ⟨g6, 0, none⟩) (R ++ [x]).length c6) (R ++ [x]).length (ints (R ++ [x]))) := by
       show World.ownsRow _ _ _ _ _ _ _
       rw [HL6.out, ints_snoc]
       exact h1
      have e1 : w6.cell? ⟨b, off + k, none⟩ = some (.int .i64 x) := by
       have hA6 := HA.out.below (by omega) HB6.out
       obtain ⟨b', off', hbA', _, hc6⟩ := hA6.1.form (by omega) (by omega)
       simp only [Option.some.injEq, Addr.mk.injEq, and_true] at hbA'
       obtain ⟨rfl, rfl⟩ := hbA'
       exact (hc6 k (by omega)).trans (ints_get HX.out)
      clear h1 h2 e0 hBW'
      by_cases hx1 : x = -1
      · have HN : Hid (E = (R ++ [x]) ++ beginM (l.drop (k + 1)) (m - 1)) := by
         show _ = _
         rw [HR.out, beginM_cons HX.out hm0, if_pos hx1, List.append_assoc]; rfl
        have q1 : (x == -1) = true := by simp [hx1]
        clear hx1
        go_wp2
        go_roundg (l.length - (k + 1))
        case measure => rw [HGK.out]; omega
        case rel => exact ⟨k + 1, m - 1, R ++ [x], _, _, rfl, by omega, by go_num, rfl, by rw [HL6.out], by omega, by rw [HL6.out]; omega, HN, HR6, HB6⟩
      · have HN : Hid (E = (R ++ [x]) ++ beginM (l.drop (k + 1)) m) := by
         show _ = _
         rw [HR.out, beginM_cons HX.out hm0, if_neg hx1, List.append_assoc]; rfl
        have q1 : (x == -1) = false := by simp [hx1]
        clear hx1
        go_wp2
        go_roundg (l.length - (k + 1))
        case measure => rw [HGK.out]; omega
        case rel => exact ⟨k + 1, m, R ++ [x], _, _, rfl, by omega, by go_num, rfl, by rw [HL6.out], by omega, by rw [HL6.out]; omega, HN, HR6, HB6⟩
    · have hE : E = R := by rw [HR.out, beginM_none (.inr hm0), List.append_nil]
      subst hE
      clear HR
      go_wp2
      go_ret
      exact ⟨_, _, rfl, HRO.out, HBW.out⟩
  · obtain rfl : k = l.length := by omega
    have hE : E = R := by rw [HR.out, beginM_none (.inl (Nat.le_refl _)), List.append_nil]
    subst hE
    clear HR
    go_wp2
    go_ret
    exact ⟨_, _, rfl, HRO.out, HBW.out⟩
theorem findX_none {F : List KFact} {r : Int} (h : ∀ x ∈ F, x.ref ≠ r) : findX F r = -1 := by
 unfold findX
 rw [List.findIdx?_eq_none_iff.2 (fun x hx => by simp [h x hx])]
theorem findX_some {F : List KFact} {r : Int} {k : Nat} {x : KFact} (hk : F[k]? = some x) (hr : x.ref = r) (h : ∀ y ∈ F.take k, y.ref ≠ r) : findX F r = k := by
 unfold findX
 obtain ⟨hl, rfl⟩ := List.getElem?_eq_some_iff.1 hk
 rw [(List.findIdx?_eq_some_iff_getElem (i := k)).2 ⟨hl, by simp [hr], fun j hj => by
  have := h F[j] (List.mem_take_iff_getElem.2 ⟨j, by omega, rfl⟩)
  simpa using this⟩]
theorem find_lit (F : List KFact) (r : Int) (a : SV) (w : World) (hF : At w 6 a.A F.length a.c (factCells F)) :
 Calls Tryz.prog 19 #[.slice a.A F.length a.c, .int .i64 r] w (RetB (.int .i64 (findX F r)) w) := by
 refine (find_any F r a w hF).mono ?_
 rintro e z ⟨i, rfl, hb, (⟨rfl, h⟩ | ⟨k, x, rfl, hk, hr, h⟩)⟩
 · rw [findX_none h]; exact ⟨rfl, hb⟩
 · rw [findX_some hk hr h]; exact ⟨rfl, hb⟩
theorem findX_range (F : List KFact) (r : Int) : -1 ≤ findX F r ∧ findX F r < F.length := by
 unfold findX
 cases h : F.findIdx? (fun x => x.ref == r) with
 | none => simp only; omega
 | some i =>
  have := (List.findIdx?_eq_some_iff_getElem.1 h).1
  simp only; omega
theorem findX_get {F : List KFact} {r : Int} (h : 0 ≤ findX F r) : ∃ x, F[(findX F r).toNat]? = some x ∧ x.ref = r := by
 unfold findX at *
 cases e : F.findIdx? (fun x => x.ref == r) with
 | none => rw [e] at h; simp at h
 | some i =>
  obtain ⟨h1, h2, _⟩ := List.findIdx?_eq_some_iff_getElem.1 e
  exact ⟨F[i], by simp, by simpa using h2⟩
end Go.Proofs.YtahhdjeclbagnaaGreatDoor
namespace Go.Proofs.YtahhdjeclbagnaaGreatDoor
open Go.RowKit Go.Shelf
attribute [local go_sem] stillB stillUpon makesUpon
def MayM (f : KFile) (D : List Int) : Prop :=
 D.length = f.facts.length ∧ (∀ (i : Nat) (x : KFact) (d : Int), f.facts[i]? = some x → D[i]? = some d → x.low ≤ d ∧ d ≤ x.high) ∧ ∀ b ∈ f.orders, ∃ (i j : Nat) (d e : Int), findX f.facts b.ref = i ∧ findX f.facts b.next = j ∧ D[i]? = some d ∧ D[j]? = some e ∧ d ≤ e
def MayPost (f : KFile) (D : List Int) (w : World) (e : Ending) (w' : World) : Prop := ∃ x : Bool, e = .returned (.bool x) ∧ (x = true → MayM f D) ∧ Below w.heap.size w w'
set_option maxRecDepth 100000 in
set_option maxHeartbeats 4000000 in
theorem may_any (f : KFile) (D : List Int) (a : FV) (dA : Option Addr) (dc : Nat) (w : World) (hf : FileAt w a f) (hD : At w 1 dA D.length dc (ints D)) :
 Calls Tryz.prog 15 #[a.val f, .slice dA D.length dc] w (MayPost f D w) := by
 obtain ⟨⟨fA, fc⟩, ⟨oA, oc⟩⟩ := a
 obtain ⟨hx, F, O⟩ := f
 have l1 := atLen hf.facts
 have l2 := atLen hf.orders
 have l3 := atLen hD
 simp only at l1 l2 l3
 have HF := Lib.hid hf; clear hf
 have HD := Lib.hid hD; clear hD
 simp only [FV.val, FV.cells]
 go_enter Tryz.func15, Tryz.ntmps15
 go_upto_region 1 with (fail)
 generalize hW0 : World.alloc _ _ = W0
 obtain ⟨HB, hh0⟩ := bx1 hW0; clear hW0
 obtain ⟨_, k1, k2⟩ := kc3 hh0
 have K1 := Lib.hid k1
 have K2 := Lib.hid k2
 have e1 := k1 ⟨W0, Below.refl _ _⟩
 simp only at e1
 clear hh0 k1 k2
 by_cases hlen : D.length = F.length
 · have q0 : ((D.length : Int) != (F.length : Int)) = false := by simp [hlen]
   have HLEN := Lib.hid hlen; clear hlen
   go_wp2
   clear e1 q0
   go_loopw [5] (fun v wr => ∃ k : Nat, k ≤ D.length ∧ v = .int .i64 k ∧ Hid (∀ (i : Nat) (x : KFact) (d : Int), i < k → F[i]? = some x → D[i]? = some d → x.low ≤ d ∧ d ≤ x.high) ∧ Hid (Below W0.heap.size W0 wr)) (fun v _ => D.length - (intOf v).toNat)
   case atStart => exact ⟨0, Nat.zero_le _, rfl, (fun i _ _ h => by omega), Below.refl _ _⟩
   case round =>
    obtain ⟨k, hk, rfl, HT, HBW⟩ := hrel
    by_cases hlt : k < D.length
    · have hlt2 : k < F.length := by have := HLEN.out; omega
      obtain ⟨d, hd⟩ : ∃ d, D[k]? = some d := ⟨_, List.getElem?_eq_getElem hlt⟩
      obtain ⟨x, hx⟩ : ∃ x, F[k]? = some x := ⟨_, List.getElem?_eq_getElem hlt2⟩
      obtain ⟨g1, o1, p1, hg1, hc1⟩ := HD.out.1.form (by omega) (by omega)
      obtain ⟨g2, o2, p2, hg2, hc2⟩ := HF.out.facts.fact (show 0 < F.length by omega)
      simp only at p2
      subst p1 p2
      have x0 : ∀ z : Bl wr, z.val.cell? ⟨g1, o1 + k, none⟩ = some (.int .i64 d) := fun z => ((Below.step HB.out (Below.step HBW.out z.prop)).cell (p := ⟨g1, o1 + k, none⟩) hg1).trans ((hc1 k (by omega)).trans (ints_get hd))
      have x2 : ∀ z : Bl wr, z.val.cell? ⟨g2, o2 + k * 6 + 2, none⟩ = some (.int .i64 x.low) := fun z => hc2 k x hx z.val (Below.step HB.out (Below.step HBW.out z.prop)) 2 (by omega)
      have x3 : ∀ z : Bl wr, z.val.cell? ⟨g2, o2 + k * 6 + 3, none⟩ = some (.int .i64 x.high) := fun z => hc2 k x hx z.val (Below.step HB.out (Below.step HBW.out z.prop)) 3 (by omega)
      have b1 : ∀ z : Bl wr, z.val.cell? ⟨w.heap.size, 1, none⟩ = some (.slice (some ⟨g2, o2, none⟩) F.length fc) := fun z => K1.out ⟨z.val, Below.step HBW.out z.prop⟩
      have i1 : (k : Int) < (D.length : Int) := by omega
      have i2 : (k : Int) < (F.length : Int) := by omega
      have HX : Hid (F[k]? = some x ∧ D[k]? = some d) := ⟨hx, hd⟩
      clear hx hd hc1 hc2
      go_upto_region 6 with (fail)
      change Code.wp _ _ _ _ (Bl.val (⟨wr, Below.refl _ _⟩ : Bl wr))
      generalize (⟨wr, Below.refl _ _⟩ : Bl wr) = za
      cases q1 : decide (d < x.low) with
      | true =>
       refine wp_region_bl (by kernel_rfl) (by kernel_rfl) ?_
       repeat (go_big_quiet_step (fail))
       refine wpQuiet_nil ?_
       rintro _ ⟨zb, rfl⟩
       have HBZ := Lib.hid (Below.step HB.out (Below.step HBW.out zb.prop))
       go_wp2
       go_ret
       exact ⟨false, rfl, (fun h => by cases h), HBZ.out⟩
      | false =>
       cases q2 : decide (x.high < d) with
       | true =>
        refine wp_region_bl (by kernel_rfl) (by kernel_rfl) ?_
        repeat (go_big_quiet_step (fail))
        refine wpQuiet_nil ?_
        rintro _ ⟨zb, rfl⟩
        have HBZ := Lib.hid (Below.step HB.out (Below.step HBW.out zb.prop))
        go_wp2
        go_ret
        exact ⟨false, rfl, (fun h => by cases h), HBZ.out⟩
       | false =>
        have HTN : Hid (∀ (i : Nat) (x : KFact) (d : Int), i < k + 1 → F[i]? = some x → D[i]? = some d → x.low ≤ d ∧ d ≤ x.high) := fun i y e hi hy he => by
         rcases Nat.lt_or_ge i k with h | h
         · exact HT.out i y e h hy he
         · obtain rfl : i = k := by omega
           rw [HX.out.1] at hy
           rw [HX.out.2] at he
           obtain rfl := Option.some.inj hy
           obtain rfl := Option.some.inj he
           rw [decide_eq_false_iff_not] at q1 q2
           omega
        refine wp_region_bl (by kernel_rfl) (by kernel_rfl) ?_
        repeat (go_big_quiet_step (fail))
        refine wpQuiet_nil ?_
        rintro _ ⟨zb, rfl⟩
        have HBZ : Hid (Below W0.heap.size W0 zb.val) := Below.step HBW.out zb.prop
        clear x0 x2 x3 b1 q1 q2 HBW
        generalize zb.val = Wd at HBZ ⊢
        go_wp2
        go_roundw
        case rel => exact ⟨k + 1, by omega, by go_num, HTN, HBZ⟩
        case measure => simp [intOf]; omega
    · obtain rfl : k = D.length := by omega
      have HTF : Hid (∀ (i : Nat) (x : KFact) (d : Int), F[i]? = some x → D[i]? = some d → x.low ≤ d ∧ d ≤ x.high) := fun i x d hx hd => HT.out i x d (List.getElem?_eq_some_iff.1 hd).1 hx hd
      clear hk hlt HT
      go_wp2
      go_loopw [6] (fun v wr => ∃ k : Nat, k ≤ O.length ∧ v = .int .i64 k ∧ Hid (∀ b ∈ O.take k, ∃ (i j : Nat) (d e : Int), findX F b.ref = i ∧ findX F b.next = j ∧ D[i]? = some d ∧ D[j]? = some e ∧ d ≤ e) ∧ Hid (Below W0.heap.size W0 wr)) (fun v _ => O.length - (intOf v).toNat)
      case atStart => exact ⟨0, Nat.zero_le _, rfl, (fun b hb => by simp at hb), HBW⟩
      case round =>
       clear HBW
       obtain ⟨k, hk, rfl, HT, HBW⟩ := hrel
       have c2 := K2.out ⟨wr, HBW.out⟩
       simp only at c2
       by_cases hlt : k < O.length
       · obtain ⟨b, hb⟩ : ∃ b, O[k]? = some b := ⟨_, List.getElem?_eq_getElem hlt⟩
         obtain ⟨g2, o2, p2, hg2, hc2⟩ := HF.out.orders.bef (show 0 < O.length by omega)
         simp only at p2
         subst p2
         have x0 : ∀ z : Bl wr, z.val.cell? ⟨g2, o2 + k * 2, none⟩ = some (.int .i64 b.ref) := fun z => hc2 k b hb z.val (Below.step HB.out (Below.step HBW.out z.prop)) 0 (by omega)
         have x1 : ∀ z : Bl wr, z.val.cell? ⟨g2, o2 + k * 2 + 1, none⟩ = some (.int .i64 b.next) := fun z => hc2 k b hb z.val (Below.step HB.out (Below.step HBW.out z.prop)) 1 (by omega)
         have b1 : ∀ z : Bl wr, z.val.cell? ⟨w.heap.size, 1, none⟩ = some (.slice fA F.length fc) := fun z => K1.out ⟨z.val, Below.step HBW.out z.prop⟩
         have b2 : ∀ z : Bl wr, z.val.cell? ⟨w.heap.size, 2, none⟩ = some (.slice (some ⟨g2, o2, none⟩) O.length oc) := fun z => K2.out ⟨z.val, Below.step HBW.out z.prop⟩
         have i1 : (k : Int) < (O.length : Int) := by omega
         have HX := Lib.hid hb
         have HF1 := Lib.hid (fun z : Bl wr => find_lit F b.ref ⟨fA, fc⟩ z.val (HF.out.facts.below (by omega) (Below.step HB.out (Below.step HBW.out z.prop))))
         have HF2 := Lib.hid (fun z : Bl wr => find_lit F b.next ⟨fA, fc⟩ z.val (HF.out.facts.below (by omega) (Below.step HB.out (Below.step HBW.out z.prop))))
         have r1 := findX_range F b.ref
         have r2 := findX_range F b.next
         have HTN : Hid ((∃ (i j : Nat) (d e : Int), findX F b.ref = i ∧ findX F b.next = j ∧ D[i]? = some d ∧ D[j]? = some e ∧ d ≤ e) → ∀ b ∈ O.take (k + 1), ∃ (i j : Nat) (d e : Int), findX F b.ref = i ∧ findX F b.next = j ∧ D[i]? = some d ∧ D[j]? = some e ∧ d ≤ e) := fun h y hy => by
          rw [List.take_add_one, HX.out] at hy
          rcases List.mem_append.1 hy with h1 | h1
          · exact HT.out y h1
          · simp at h1; rw [h1]; exact h
         generalize findX F b.ref = u1 at HF1 r1 HTN
         generalize findX F b.next = u2 at HF2 r2 HTN
         clear hb hc2
         go_upto_region 11 with (fail)
         change Code.wp _ _ _ _ (Bl.val (⟨wr, Below.refl _ _⟩ : Bl wr))
         generalize (⟨wr, Below.refl _ _⟩ : Bl wr) = za
         refine wp_region_bl (by kernel_rfl) (by kernel_rfl) ?_
         repeat (go_big_quiet_step ((go_at_call 19; exact Calls.bl_of (HF1.out _))))
         refine wpQuiet_nil ?_
         rintro _ ⟨zb, rfl⟩
         clear HF1 x0
         go_wp2
         refine wp_region_bl (by kernel_rfl) (by kernel_rfl) ?_
         repeat (go_big_quiet_step ((go_at_call 19; exact Calls.bl_of (HF2.out _))))
         refine wpQuiet_nil ?_
         rintro _ ⟨zc, rfl⟩
         clear HF2 x1 b1 b2 c2
         by_cases h1 : u1 < 0
         · go_upto_region 13 with (fail)
           refine wp_region_bl (by kernel_rfl) (by kernel_rfl) ?_
           repeat (go_big_quiet_step (fail))
           refine wpQuiet_nil ?_
           rintro _ ⟨zd, rfl⟩
           have HBZ := Lib.hid (Below.step HB.out (Below.step HBW.out zd.prop))
           go_wp2
           go_ret
           exact ⟨false, rfl, (fun h => by cases h), HBZ.out⟩
         · by_cases h2 : u2 < 0
           · go_upto_region 13 with (fail)
             refine wp_region_bl (by kernel_rfl) (by kernel_rfl) ?_
             repeat (go_big_quiet_step (fail))
             refine wpQuiet_nil ?_
             rintro _ ⟨zd, rfl⟩
             have HBZ := Lib.hid (Below.step HB.out (Below.step HBW.out zd.prop))
             go_wp2
             go_ret
             exact ⟨false, rfl, (fun h => by cases h), HBZ.out⟩
           · obtain ⟨n1, rfl⟩ : ∃ n : Nat, u1 = n := ⟨u1.toNat, by omega⟩
             obtain ⟨n2, rfl⟩ : ∃ n : Nat, u2 = n := ⟨u2.toNat, by omega⟩
             have m1 : n1 < D.length := by have := HLEN.out; omega
             have m2 : n2 < D.length := by have := HLEN.out; omega
             obtain ⟨d1, hd1⟩ : ∃ d, D[n1]? = some d := ⟨_, List.getElem?_eq_getElem m1⟩
             obtain ⟨d2, hd2⟩ : ∃ d, D[n2]? = some d := ⟨_, List.getElem?_eq_getElem m2⟩
             obtain ⟨g1, o1, p1, hg1, hc1⟩ := HD.out.1.form (by omega) (by omega)
             subst p1
             have y1 : ∀ z : Bl wr, z.val.cell? ⟨g1, o1 + n1, none⟩ = some (.int .i64 d1) := fun z => ((Below.step HB.out (Below.step HBW.out z.prop)).cell (p := ⟨g1, o1 + n1, none⟩) hg1).trans ((hc1 n1 (by omega)).trans (ints_get hd1))
             have y2 : ∀ z : Bl wr, z.val.cell? ⟨g1, o1 + n2, none⟩ = some (.int .i64 d2) := fun z => ((Below.step HB.out (Below.step HBW.out z.prop)).cell (p := ⟨g1, o1 + n2, none⟩) hg1).trans ((hc1 n2 (by omega)).trans (ints_get hd2))
             have j1 : (n1 : Int) < (D.length : Int) := by omega
             have j2 : (n2 : Int) < (D.length : Int) := by omega
             have HDD : Hid (D[n1]? = some d1 ∧ D[n2]? = some d2) := ⟨hd1, hd2⟩
             clear hd1 hd2 hc1 r1 r2
             cases q3 : decide (d2 < d1) with
             | true =>
              go_upto_region 13 with (fail)
              refine wp_region_bl (by kernel_rfl) (by kernel_rfl) ?_
              repeat (go_big_quiet_step (fail))
              refine wpQuiet_nil ?_
              rintro _ ⟨zd, rfl⟩
              have HBZ := Lib.hid (Below.step HB.out (Below.step HBW.out zd.prop))
              go_wp2
              go_ret
              exact ⟨false, rfl, (fun h => by cases h), HBZ.out⟩
             | false =>
              have HTM := Lib.hid (HTN.out ⟨n1, n2, d1, d2, rfl, rfl, HDD.out.1, HDD.out.2, by rw [decide_eq_false_iff_not] at q3; omega⟩)
              clear HTN
              go_upto_region 13 with (fail)
              refine wp_region_bl (by kernel_rfl) (by kernel_rfl) ?_
              repeat (go_big_quiet_step (fail))
              refine wpQuiet_nil ?_
              rintro _ ⟨zd, rfl⟩
              have HBZ : Hid (Below W0.heap.size W0 zd.val) := Below.step HBW.out zd.prop
              clear y1 y2 q3 HBW zc zb za
              generalize zd.val = Wd at HBZ ⊢
              go_wp2
              go_roundw
              case rel => exact ⟨k + 1, by omega, by go_num, HTM, HBZ⟩
              case measure => simp [intOf]; omega
       · obtain rfl : k = O.length := by omega
         have HTO := Lib.hid HT.out
         rw [List.take_length] at HTO
         have HBZ := Lib.hid (Below.step HB.out HBW.out)
         go_wp2
         go_ret
         exact ⟨true, rfl, (fun _ => ⟨HLEN.out, HTF.out, HTO.out⟩), HBZ.out⟩
 · have q0 : ((D.length : Int) != (F.length : Int)) = true := by simp only [bne_iff_ne, ne_eq]; omega
   clear hlen
   go_wp2
   go_ret
   exact ⟨false, rfl, (fun h => by cases h), HB.out⟩
def ConRet (C : KCon) (w : World) (e : Ending) (w' : World) : Prop :=
 ∃ (hA : Option Addr) (hc : Nat) (uA : Option Addr) (uc : Nat) (aA : Option Addr) (ac : Nat) (kA : Option Addr) (kc : Nat) (oA : Option Addr) (oc : Nat), e = .returned (CV.val ⟨⟨hA, hc⟩, ⟨uA, uc⟩, ⟨aA, ac⟩, ⟨kA, kc⟩, ⟨oA, oc⟩⟩ C) ∧ ConAt w' ⟨⟨hA, hc⟩, ⟨uA, uc⟩, ⟨aA, ac⟩, ⟨kA, kc⟩, ⟨oA, oc⟩⟩ C ∧ Below w.heap.size w w'
theorem at_row {w : World} {size n g : Nat} {xs : List Value} {t : TypeId} (h : w.heap[g]? = some (.cells xs.toArray t (0, 0))) (hl : xs.length = n * size) (h1 : ∀ u ∈ xs, u.oneCell' = true) (hn : n ≤ maxLen) : At w size (some ⟨g, 0, none⟩) n n xs := by
 refine ⟨⟨hl, h1, fun _ => ⟨_, rfl, fun j u hj => ?_⟩⟩, (fun h => by cases h), Nat.le_refl _, hn⟩
 rw [Addr.add_lit, cell_of_row _ _ (0 + j) _ _ _ h]
 simpa using hj
set_option maxRecDepth 100000 in
set_option maxHeartbeats 1000000 in
theorem example_any (w : World) : Calls Tryz.prog 24 #[] w (ConRet exC w) := by
 go_enter Tryz.func24, Tryz.ntmps24
 go_wp2
 generalize hW0 : World.alloc _ _ = W0
 obtain ⟨HB, hh0, _, hh2, hh3⟩ := bx4 hW0
 clear hW0
 have g0 : W0.cell? ⟨w.heap.size, 0, none⟩ = some (.int .i64 2) := (cell_of_row W0 _ 0 _ _ _ hh0).trans rfl
 have g1 : W0.cell? ⟨w.heap.size, 1, none⟩ = some (.slice (some ⟨w.heap.size + 1 + 1, 0, none⟩) 2 2) := (cell_of_row W0 _ 1 _ _ _ hh0).trans rfl
 have g2 : W0.cell? ⟨w.heap.size, 2, none⟩ = some (.slice none 0 0) := (cell_of_row W0 _ 2 _ _ _ hh0).trans rfl
 have g3 : W0.cell? ⟨w.heap.size, 3, none⟩ = some (.slice (some ⟨w.heap.size + 1 + 1 + 1, 0, none⟩) 2 2) := (cell_of_row W0 _ 3 _ _ _ hh0).trans rfl
 have g4 : W0.cell? ⟨w.heap.size, 4, none⟩ = some (.slice none 0 0) := (cell_of_row W0 _ 4 _ _ _ hh0).trans rfl
 have g5 : W0.cell? ⟨w.heap.size, 5, none⟩ = some (.int .i64 3) := (cell_of_row W0 _ 5 _ _ _ hh0).trans rfl
 have g6 : W0.cell? ⟨w.heap.size, 6, none⟩ = some (.slice none 0 0) := (cell_of_row W0 _ 6 _ _ _ hh0).trans rfl
 refine bodyPost_ret (v := .agg #[.int .i64 2, .slice (some ⟨w.heap.size + 1 + 1, 0, none⟩) 2 2, .slice none 0 0, .slice (some ⟨w.heap.size + 1 + 1 + 1, 0, none⟩) 2 2, .slice none 0 0, .int .i64 3, .slice none 0 0]) (by simp [results, Tryz.results24, go_sem, g0, g1, g2, g3, g4, g5, g6]) rfl ⟨_, _, _, _, _, _, _, _, _, _, rfl, ?_, HB.out⟩
 refine ⟨?_, at_nilX _ _, ?_, ⟨[], rfl, at_nilX _ _, fun i k st hk => by simp [exC] at hk⟩, at_nilX _ _⟩
 · exact at_row hh2 rfl (by decide) (by unfold maxLen; decide)
 · exact at_row hh3 rfl (by decide) (by unfold maxLen; decide)
end Go.Proofs.YtahhdjeclbagnaaGreatDoor
namespace Go.Proofs.YtahhdjeclbagnaaGreatDoor
open Go.RowKit Go.Shelf
theorem At.one {w : World} {g : Nat} {o : Obj} {t : TypeId} {cs : List Value} (h : w.heap[g]? = some o) (e : o = .cells cs.toArray t (0, 0)) : w.heap[g]? = some (.cells cs.toArray t (0, 0)) := by rw [h, e]
structure ExAt (V : World) (cb fb : Nat) (v : CV) (t : FV) : Prop where
 con : ConAt V v exC
 file : FileAt V t exF
 cbox : Own V 27 cb [.int .i64 2, .slice v.h.A 2 v.h.c, .slice v.u.A 0 v.u.c, .slice v.a.A 2 v.a.c, .slice v.k.A 0 v.k.c, .int .i64 3, .slice v.o.A 0 v.o.c]
 fbox : Own V 34 fb [.int .i64 0, .slice t.f.A 2 t.f.c, .slice t.o.A 1 t.o.c]
theorem ExAt.below {V V' : World} {cb fb : Nat} {v : CV} {t : FV} (h : ExAt V cb fb v t) (hb : Below V.heap.size V V') : ExAt V' cb fb v t :=
 ⟨h.con.below hb, h.file.below hb, h.cbox.below hb, h.fbox.below hb⟩
theorem ExAt.cells {V : World} {cb fb : Nat} {v : CV} {t : FV} (h : ExAt V cb fb v t) :
 V.cell? ⟨cb, 0, none⟩ = some (.int .i64 2) ∧ V.cell? ⟨cb, 1, none⟩ = some (.slice v.h.A 2 v.h.c) ∧ V.cell? ⟨cb, 2, none⟩ = some (.slice v.u.A 0 v.u.c) ∧ V.cell? ⟨cb, 3, none⟩ = some (.slice v.a.A 2 v.a.c) ∧ V.cell? ⟨cb, 4, none⟩ = some (.slice v.k.A 0 v.k.c) ∧ V.cell? ⟨cb, 5, none⟩ = some (.int .i64 3) ∧ V.cell? ⟨cb, 6, none⟩ = some (.slice v.o.A 0 v.o.c) ∧
 V.cell? ⟨fb, 0, none⟩ = some (.int .i64 0) ∧ V.cell? ⟨fb, 1, none⟩ = some (.slice t.f.A 2 t.f.c) ∧ V.cell? ⟨fb, 2, none⟩ = some (.slice t.o.A 1 t.o.c) :=
 ⟨h.cbox.cell rfl, h.cbox.cell rfl, h.cbox.cell rfl, h.cbox.cell rfl, h.cbox.cell rfl, h.cbox.cell rfl, h.cbox.cell rfl, h.fbox.cell rfl, h.fbox.cell rfl, h.fbox.cell rfl⟩
theorem refs64 {fs : List KFile} (h : ∀ x ∈ factsOf fs, 1 ≤ x.ref ∧ x.ref ≤ 2) : ∀ x ∈ factsOf fs, In64 x.ref := fun x hx => by
 have := h x hx
 exact in64_of (by omega) (by omega)
theorem exJoinC {W : World} {cb fb : Nat} {v : CV} {t : FV} (hX : ExAt W cb fb v t) (ho : Int) (x : KFact) (hx : 1 ≤ x.ref ∧ x.ref ≤ 2) :
 Calls Tryz.prog 11 #[.agg #[.int .i64 2, .slice v.h.A 2 v.h.c, .slice v.u.A 0 v.u.c, .slice v.a.A 2 v.a.c, .slice v.k.A 0 v.k.c, .int .i64 3, .slice v.o.A 0 v.o.c], .slice (some ⟨W.heap.size + 1, 0, none⟩) 2 2]
  ((W.alloc (.cells x.cells.toArray 50)).alloc (.cells #[.int .i64 0, .slice t.f.A 2 t.f.c, .slice t.o.A 1 t.o.c, .int .i64 ho, .slice (some ⟨W.heap.size, 0, none⟩) 1 1, .slice none 0 0] 34))
  (fun e w' => ∃ (ho' : Int) (F' : List KFact) (O' : List KBef) (er : Int) (A : Option Addr) (c : Nat) (A' : Option Addr) (c' : Nat), e = .returned (.tuple #[.agg #[.int .i64 ho', .slice A F'.length c, .slice A' O'.length c'], .int .i64 er]) ∧ At w' 6 A F'.length c (factCells F') ∧ Below W.heap.size W w' ∧ JoinRes exC [exF, ⟨ho, [x], []⟩] ho' F' O' er) := by
 generalize hW2 : World.alloc _ _ = W2
 obtain ⟨HB, h0, h1⟩ := bx2 hW2
 have o0 : Own W2 50 W.heap.size x.cells := ⟨[], by rw [List.append_nil]; exact h0⟩
 have o1 : Own W2 34 (W.heap.size + 1) (fileRow [(exF, t), (⟨ho, [x], []⟩, ⟨⟨some ⟨W.heap.size, 0, none⟩, 1⟩, ⟨none, 0⟩⟩)]) := ⟨[], by rw [List.append_nil]; exact h1⟩
 have hX2 := hX.below HB.out
 have hfs := FilesAt.row (c := 2) o1 (by simp) (by unfold maxLen; omega) (fun q hq => by
  simp only [List.mem_cons, List.not_mem_nil, or_false] at hq
  rcases hq with rfl | rfl
  · exact hX2.file
  · refine ⟨o0.toAt (by simp [KFact.cells]) (fun u hu => ?_) (by simp) (by unfold maxLen; simp), at_nilX _ _⟩
    simp only [KFact.cells, List.mem_cons, List.not_mem_nil, or_false] at hu
    rcases hu with rfl | rfl | rfl | rfl | rfl | rfl <;> rfl)
 refine (join_any v exC ⟨some ⟨W.heap.size + 1, 0, none⟩, 2⟩ [exF, ⟨ho, [x], []⟩] W2 hX2.con hfs (by simp) (refs64 (fun y hy => ?_)) (by simp [factsOf, exF, exL]) (by simp [ordersOf, exF, exO])).mono ?_
 · simp [factsOf, exF, exL] at hy
   rcases hy with rfl | rfl | rfl <;> first | (simp; done) | exact hx
 · rintro e w' ⟨ho', F', O', er, A, c, A', c', rfl, hf, _, hb, hj⟩
   exact ⟨ho', F', O', er, A, c, A', c', rfl, hf.facts, Below.step HB.out hb, hj⟩
theorem exConC {W : World} {cb fb : Nat} {v : CV} {t : FV} (hX : ExAt W cb fb v t) :
 Calls Tryz.prog 21 #[.agg #[.int .i64 2, .slice v.h.A 2 v.h.c, .slice v.u.A 0 v.u.c, .slice v.a.A 2 v.a.c, .slice v.k.A 0 v.k.c, .int .i64 3, .slice v.o.A 0 v.o.c], .slice (some ⟨W.heap.size + 1 + 1 + 1, 0, none⟩) 4 4]
  ((((W.alloc (.cells #[.int .i64 2, .int .i64 1, .int .i64 0, .int .i64 0, .int .i64 0, .bool false] 50)).alloc (.cells #[.int .i64 1, .int .i64 0, .int .i64 1, .int .i64 1, .int .i64 0, .bool false] 50)).alloc (.cells #[.int .i64 2, .int .i64 1, .int .i64 1, .int .i64 2, .int .i64 0, .bool false] 50)).alloc
   (.cells #[.int .i64 0, .slice t.f.A 2 t.f.c, .slice t.o.A 1 t.o.c, .int .i64 0, .slice (some ⟨W.heap.size, 0, none⟩) 1 1, .slice none 0 0, .int .i64 0, .slice (some ⟨W.heap.size + 1, 0, none⟩) 1 1, .slice none 0 0, .int .i64 0, .slice (some ⟨W.heap.size + 1 + 1, 0, none⟩) 1 1, .slice none 0 0] 34))
  (fun e w' => e = .returned (.tuple #[.int .i64 1, .int .i64 3, .bool true]) ∧ Below W.heap.size W w') := by
 generalize hW2 : World.alloc _ _ = W2
 obtain ⟨HB, h0, h1, h2, h3⟩ := bx4 hW2
 have o0 : Own W2 50 W.heap.size (factCells exG1.facts) := ⟨[], by rw [List.append_nil]; exact h0⟩
 have o1 : Own W2 50 (W.heap.size + 1) (factCells exG2.facts) := ⟨[], by rw [List.append_nil]; exact h1⟩
 have o2 : Own W2 50 (W.heap.size + 1 + 1) (factCells exG3.facts) := ⟨[], by rw [List.append_nil]; exact h2⟩
 have o3 : Own W2 34 (W.heap.size + 1 + 1 + 1) (fileRow [(exF, t), (exG1, ⟨⟨some ⟨W.heap.size, 0, none⟩, 1⟩, ⟨none, 0⟩⟩), (exG2, ⟨⟨some ⟨W.heap.size + 1, 0, none⟩, 1⟩, ⟨none, 0⟩⟩), (exG3, ⟨⟨some ⟨W.heap.size + 1 + 1, 0, none⟩, 1⟩, ⟨none, 0⟩⟩)]) := ⟨[], by rw [List.append_nil]; exact h3⟩
 have hX2 := hX.below HB.out
 have one : ∀ {b : Nat} {f : KFile}, f.orders = [] → f.facts.length = 1 → Own W2 50 b (factCells f.facts) → FileAt W2 ⟨⟨some ⟨b, 0, none⟩, 1⟩, ⟨none, 0⟩⟩ f := fun {b f} e1 e2 o => by
  refine ⟨o.toAt (by rw [factCells, length_flat KFact.cells 6 (fun _ => rfl)]) (factCells_one _) (by simp only; omega) (by unfold maxLen; simp), ?_⟩
  rw [e1]
  exact at_nilX _ _
 have hfs := FilesAt.row (c := 4) o3 (by simp) (by unfold maxLen; omega) (fun q hq => by
  simp only [List.mem_cons, List.not_mem_nil, or_false] at hq
  rcases hq with rfl | rfl | rfl | rfl
  · exact hX2.file
  · exact one rfl rfl o0
  · exact one rfl rfl o1
  · exact one rfl rfl o2)
 refine (conflict_any v exC ⟨some ⟨W.heap.size + 1 + 1 + 1, 0, none⟩, 4⟩ [exF, exG1, exG2, exG3] W2 hX2.con hfs (by simp) (refs64 (fun y hy => ?_)) (by decide +kernel) (by decide +kernel)).mono ?_
 · simp [factsOf, exF, exL, exG1, exG2, exG3] at hy
   rcases hy with rfl | rfl | rfl | rfl | rfl <;> simp
 · rintro e w' ⟨i, j, b, rfl, hb, hj⟩
   obtain ⟨rfl, rfl, rfl⟩ := exConflict hj
   exact ⟨rfl, Below.step HB.out hb⟩
theorem exNums {W : World} : NumsAt ((((W.alloc (.cells #[.int .i64 0, .int .i64 1, .int .i64 (-1)] 3)).alloc (.cells #[.int .i64 0, .int .i64 (-1)] 3)).alloc (.cells #[.int .i64 (-1)] 3)).alloc (.cells #[.slice (some ⟨W.heap.size, 0, none⟩) 3 3, .slice (some ⟨W.heap.size + 1, 0, none⟩) 2 2, .slice (some ⟨W.heap.size + 1 + 1, 0, none⟩) 1 1] 22)) ⟨some ⟨W.heap.size + 1 + 1 + 1, 0, none⟩, 3⟩ exR := by
 generalize hW2 : World.alloc _ _ = W2
 obtain ⟨HB, h0, h1, h2, h3⟩ := bx4 hW2
 refine ⟨[⟨some ⟨W.heap.size, 0, none⟩, 3⟩, ⟨some ⟨W.heap.size + 1, 0, none⟩, 2⟩, ⟨some ⟨W.heap.size + 1 + 1, 0, none⟩, 1⟩], rfl, ?_, fun i l t hl ht => ?_⟩
 · exact at_row h3 rfl (by simp [exR]; exact ⟨rfl, rfl, rfl⟩) (by unfold maxLen; decide)
 · rcases i with _ | _ | _ | i
   · simp [exR] at hl ht; subst hl ht; exact at_row h0 rfl (by decide) (by unfold maxLen; decide)
   · simp [exR] at hl ht; subst hl ht; exact at_row h1 rfl (by decide) (by unfold maxLen; decide)
   · simp [exR] at hl ht; subst hl ht; exact at_row h2 rfl (by decide) (by unfold maxLen; decide)
   · simp [exR] at hl
end Go.Proofs.YtahhdjeclbagnaaGreatDoor
