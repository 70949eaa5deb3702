/-
  CtF
-/
import Derived.Test.YtahhdjeclbagnaaGreatDoorQ33
import Derived.Test.YtahhdjeclbagnaaGreatDoorQ34
namespace Go.Proofs.YtahhdjeclbagnaaGreatDoor
open Go.RowKit Go.Shelf
def backL : List (Nat × Int × Int) → (Nat → Int) → Nat → Int
 | [], f => f
 | c :: H, f => setAt (backL H f) c.1 c.2.1
def backH : List (Nat × Int × Int) → (Nat → Int) → Nat → Int
 | [], f => f
 | c :: H, f => setAt (backH H f) c.1 c.2.2
theorem backL_snoc (H : List (Nat × Int × Int)) (c : Nat × Int × Int) (f : Nat → Int) : backL (H ++ [c]) f = backL H (setAt f c.1 c.2.1) := by
 induction H with
 | nil => rfl
 | cons d H ih => show setAt (backL (H ++ [c]) f) d.1 d.2.1 = _; rw [ih]; rfl
theorem backH_snoc (H : List (Nat × Int × Int)) (c : Nat × Int × Int) (f : Nat → Int) : backH (H ++ [c]) f = backH H (setAt f c.1 c.2.2) := by
 induction H with
 | nil => rfl
 | cons d H ih => show setAt (backH (H ++ [c]) f) d.1 d.2.2 = _; rw [ih]; rfl
theorem setAt_back (f : Nat → Int) (i : Nat) (v : Int) : setAt (setAt f i v) i (f i) = f := by
 funext x
 by_cases e : x = i
 · subst e; rw [setAt_same]
 · rw [setAt_other _ _ e, setAt_other _ _ e]
theorem setAt_self (f : Nat → Int) (i : Nat) : setAt f i (f i) = f := by
 funext x
 by_cases e : x = i
 · subst e; rw [setAt_same]
 · rw [setAt_other _ _ e]
theorem SearchAt.updInt {w w' : World} {X : SX} {lo hi : Nat → Int} {A : Option Addr} {oc : Nat} {H : List (Nat × Int × Int)} {S : Nat → Prop} (h : SearchAt w X lo hi A oc H) (hu : Upd S w w') (hT : ∀ k, S k → ∃ cs fz, w.heap[k]? = some (.cells cs 3 fz)) (hR : ∀ v, v ∈ X.vb ∨ v ∈ X.va → ∀ b, v.ownBlock = some b → ¬ S b) : SearchAt w' X lo hi A oc H := by
 have key : ∀ {t : TypeId} {b : Nat} {cs : List Value}, Own w t b cs → t ≠ 3 → ¬ S b := fun ho ht hs => by
  obtain ⟨tl, ho⟩ := ho
  obtain ⟨cs, fz, h1⟩ := hT _ hs
  rw [ho] at h1
  injection h1 with h1
  injection h1 with _ h1 _
  exact ht h1
 refine ⟨h.bef.upd hu (key h.bef.own (by decide)) (fun v hv b hb => hR v (.inl hv) b hb), h.aft.upd hu (key h.aft.own (by decide)) (fun v hv b hb => hR v (.inr hv) b hb), h.lenB, h.lenA, h.box.keep hu (key h.box (by decide)), h.bnd.keep hu (key h.bnd (by decide)), ownsRow_upd h.old hu (fun b hb hs => ?_), h.low⟩
 obtain ⟨cs, fz, h1⟩ := hT _ hs
 exact ownBlock_ne h.old h1 (by decide) hb
def natI (l : List Nat) : List Int := l.map (fun x : Nat => (x : Int))
theorem natI_snoc (l : List Nat) (x : Nat) : natI (l ++ [x]) = natI l ++ [(x : Int)] := by simp [natI]
theorem natI_len (l : List Nat) : (natI l).length = l.length := List.length_map _
theorem natI_get {l : List Nat} {i x : Nat} (h : l[i]? = some x) : (natI l)[i]? = some (x : Int) := by simp [natI, h]
theorem MvS.new {X : SX} {w wr w' : World} {S : Nat → Prop} (h : MvS X w wr) (hu : Upd S wr w') (hS : ∀ k, S k → w.heap.size ≤ k) : MvS X w w' := Upd.trans h hu (fun i hi hs => by have := hS i hs; omega)
theorem ownsRow_typed {w : World} {B : Nat} {e : TypeId} {size n : Nat} {v : Value} {xs : List Value} (h : w.ownsRow B e size v n xs) : ∀ k, v.ownBlock = some k → ∃ cs fz, w.heap[k]? = some (.cells cs e fz) := fun k hk => by
 rcases h.2 with ⟨rfl, _⟩ | ⟨g, cap, cur, rfl, _, hg, _⟩
 · cases hk
 · simp only [Value.ownBlock, Option.some.injEq] at hk
   subst hk
   exact ⟨_, _, hg⟩
def nextOf (P : List (Nat × Nat)) (y : Nat) : List Nat := (P.filter (fun p => p.1 == y)).map (·.2)
theorem mem_nextOf {P : List (Nat × Nat)} {y b : Nat} : b ∈ nextOf P y ↔ (y, b) ∈ P := by
 unfold nextOf
 simp only [List.mem_map, List.mem_filter, beq_iff_eq]
 constructor
 · rintro ⟨⟨p1, p2⟩, ⟨h1, rfl⟩, rfl⟩; exact h1
 · exact fun h => ⟨(y, b), ⟨h, rfl⟩, rfl⟩
theorem nextOf_len (P : List (Nat × Nat)) (y : Nat) : (nextOf P y).length ≤ P.length := by
 unfold nextOf
 rw [List.length_map]
 exact List.length_filter_le _ _
theorem aftTo_next {P : List (Nat × Nat)} {n i : Nat} (h : i < n) : (aftTo P n P.length)[i]? = some (natI (nextOf P i)) := by
 rw [aftTo_get h, List.take_length]
 simp [natI, nextOf]
theorem befTo_next {P : List (Nat × Nat)} {n i : Nat} (h : i < n) : (befTo P n P.length)[i]? = some (natI (nextOf (P.map (fun p => (p.2, p.1))) i)) := by
 rw [befTo_get h, List.take_length]
 congr 1
 unfold natI nextOf
 rw [List.filter_map, List.map_map, List.map_map]
 rfl
theorem neg_setAt (f : Nat → Int) (i : Nat) (v : Int) : setAt (fun i => - f i) i (-v) = fun j => - setAt f i v j := by
 funext x
 by_cases e : x = i
 · subst e; rw [setAt_same, setAt_same]
 · rw [setAt_other _ _ e, setAt_other _ _ e]
theorem bnd_neg {n : Nat} {lo hi : Nat → Int} {P : List (Nat × Nat)} (hB : Bnd n lo hi P) : Bnd n (fun i => - hi i) (fun i => - lo i) (P.map (fun p => (p.2, p.1))) := by
 refine ⟨fun i hn => by have := hB.le i hn; omega, fun p hp => ?_, fun p hp => ?_, fun p hp => ?_⟩
 all_goals
  obtain ⟨q, hq, rfl⟩ := List.mem_map.1 hp
  simp only
 · have := hB.clH q hq; omega
 · have := hB.clL q hq; omega
 · exact ⟨(hB.inn q hq).2, (hB.inn q hq).1⟩
def ChoosePost (X : SX) (P : List (Nat × Nat)) (lo hi : Nat → Int) (H : List (Nat × Int × Int)) (a : Nat) (v : Int) (w : World) (e : Ending) (w' : World) : Prop :=
 ∃ (lo' hi' : Nat → Int) (A : Option Addr) (oc : Nat) (H2 : List (Nat × Int × Int)), e = .returned (.tuple #[]) ∧ SearchAt w' X lo' hi' A oc (H ++ H2) ∧ MvS X w w' ∧ H2.length ≤ 2 * X.n + 1 ∧ backL H2 lo' = lo ∧ backH H2 hi' = hi ∧ (∀ c ∈ H2, c.1 < X.n) ∧
  (∃ later, Up X.n lo hi P a v lo' later ∧ ∀ y ∈ later, ∀ b, (y, b) ∈ P → v ≤ lo' b) ∧
  ∃ earlier, Up X.n (fun i => - hi i) (fun i => - lo i) (P.map (fun p => (p.2, p.1))) a (-v) (fun i => - hi' i) earlier ∧ ∀ y ∈ earlier, ∀ b, (y, b) ∈ P.map (fun p => (p.2, p.1)) → -v ≤ - hi' b
attribute [local go_sem] stillB stillC stillUpon makesUpon
set_option maxRecDepth 100000 in
set_option maxHeartbeats 4000000 in
theorem choose_any (X : SX) (P : List (Nat × Nat)) (lo hi : Nat → Int) (A : Option Addr) (oc : Nat) (H : List (Nat × Int × Int)) (a : Nat) (v : Int) (w : World) (hS : SearchAt w X lo hi A oc H) (hB : Bnd X.n lo hi P) (hLb : X.Lb = befTo P X.n P.length) (hLa : X.La = aftTo P X.n P.length) (ha : a < X.n) (h1 : lo a ≤ v) (h2 : v ≤ hi a) (hn : X.n ≤ 4000) (hP : P.length ≤ 4000) (hH : H.length + 2 * X.n + 1 ≤ 1000000) :
 Calls Tryz.prog 53 #[.pointer (some ⟨X.sb, 0, none⟩), .int .i64 a, .int .i64 v] w (ChoosePost X P lo hi H a v w) := by
 have HS := Lib.hid hS; clear hS
 have HB := Lib.hid hB; clear hB
 have HLB := Lib.hid hLb; clear hLb
 have HLA := Lib.hid hLa; clear hLa
 have HLT : Hid (∀ u, u ∈ X.vb ∨ u ∈ X.va → ∀ b, u.ownBlock = some b → b < w.heap.size) := fun u hu b hb => by
  rcases hu with hu | hu
  · exact (HS.out.bef.low u hu b hb).2.1
  · exact (HS.out.aft.low u hu b hb).2.1
 have HST := Lib.hid (set_any X lo hi A oc H a v v w HS.out ha (by omega))
 have HUP0 := Lib.hid (Up.start (P := P) ha h1 h2)
 have HWN0 : Hid (Up X.n (fun i => - hi i) (fun i => - lo i) (P.map (fun p => (p.2, p.1))) a (-v) (fun i => - setAt hi a v i) [a]) := by
  have h := Up.start (n := X.n) (lo := fun i => - hi i) (hi := fun i => - lo i) (P := P.map (fun p => (p.2, p.1))) (v := -v) ha (by omega) (by omega)
  have e : (fun i => - setAt hi a v i) = setAt (fun i => - hi i) a (-v) := by
   funext i
   by_cases e : i = a
   · subst e; rw [setAt_same, setAt_same]
   · rw [setAt_other _ _ e, setAt_other _ _ e]
  show Up _ _ _ _ _ _ _ _
  rw [e]
  exact h
 clear h1 h2
 obtain ⟨H1, hH1⟩ : ∃ H1 : List (Nat × Int × Int), H1 = (if lo a = v ∧ hi a = v then [] else [(a, lo a, hi a)]) := ⟨_, rfl⟩
 have HSET : Hid (Calls Tryz.prog 75 #[.pointer (some ⟨X.sb, 0, none⟩), .int .i64 a, .agg #[.int .i64 v, .int .i64 v]] w (fun e w' => ∃ A oc b, e = .returned (.bool b) ∧ SearchAt w' X (setAt lo a v) (setAt hi a v) A oc (H ++ H1) ∧ MvS X w w')) := by
  refine HST.out.mono ?_
  rintro e w' ⟨A, oc, rfl, h3, h4⟩
  refine ⟨A, oc, _, rfl, ?_, h4⟩
  by_cases c : lo a = v ∧ hi a = v
  · rw [if_pos c, if_pos c, if_pos c] at h3
    rw [hH1, if_pos c, List.append_nil]
    have e1 : setAt lo a v = lo := by rw [← c.1]; exact setAt_self lo a
    have e2 : setAt hi a v = hi := by rw [← c.2]; exact setAt_self hi a
    rw [e1, e2]
    exact h3
  · rw [if_neg c, if_neg c, if_neg c] at h3
    rw [hH1, if_neg c]
    exact h3
 have HH1 : Hid (H1.length ≤ 1 ∧ backL H1 (setAt lo a v) = lo ∧ backH H1 (setAt hi a v) = hi ∧ ∀ c ∈ H1, c.1 < X.n) := by
  rw [hH1]
  by_cases c : lo a = v ∧ hi a = v
  · rw [if_pos c]
    refine ⟨by simp, ?_, ?_⟩
    · show setAt lo a v = lo
      rw [← c.1]; exact setAt_self lo a
    · refine ⟨?_, fun c hc => by cases hc⟩
      show setAt hi a v = hi
      rw [← c.2]; exact setAt_self hi a
  · rw [if_neg c]
    exact ⟨by simp, setAt_back lo a v, setAt_back hi a v, fun c hc => by rw [List.mem_singleton.1 hc]; exact ha⟩
 clear hH1 HST
 go_enter Tryz.func53, Tryz.ntmps53
 go_wp2_with (go_at_call 75; refine HSET.out.mono ?_; rintro e Z ⟨A1, oc1, b1, rfl, hs1, hm1⟩; refine Hid.out ?_)
 refine Lib.hid ?_
 have HS1 := Lib.hid hs1; clear hs1
 have HM1 := Lib.hid hm1; clear hm1
 clear HSET HS
 go_upto_region 2 with (fail)
 obtain ⟨lb, hlb⟩ : ∃ lb, lb = Z.heap.size := ⟨_, rfl⟩
 rw [← hlb]
 generalize hWb : World.alloc _ _ = Wb
 have hbb : Below Z.heap.size Z Wb := by rw [← hWb]; exact Below.alloc' (Below.refl _ _) _
 have HROW : Hid (Wb.ownsRow w.heap.size 3 1 (.slice (some ⟨lb, 0, none⟩) [a].length 1) [a].length (ints (natI [a]))) := by
  refine ⟨rfl, .inr ⟨lb, 1, #[.int .i64 a], rfl, ?_, ?_, Nat.le_refl _, by unfold maxLen; omega, rfl, rfl⟩⟩
  · rw [hlb]; exact HM1.out.size
  · rw [← hWb, hlb]; exact heap_alloc_new Z _
 have HS2 := Lib.hid (HS1.out.below hbb)
 have HM2 := Lib.hid (HM1.out.trans (MvS.of_below hbb))
 clear hWb hbb hlb HS1 HM1
 obtain ⟨ii, hii, hiz, his, hib⟩ := info_parts' (P := Tryz.prog) (t := 3) (z := some (.int .i64 0)) (s := 1) (b := 8) (by kernel_rfl)
 have HBN := HB.out
 go_wp2
 go_loopg [7, 6] X.n (fun gk v7 v6 wr => ∃ (i : Nat) (loc : Nat → Int) (Hc : List (Nat × Int × Int)) (later : List Nat) (A6 : Option Addr) (c6 : Nat) (A' : Option Addr) (oc' : Nat), gk = X.n - i ∧ i ≤ later.length ∧ v7 = .int .i64 i ∧ v6 = .slice A6 later.length c6 ∧ Hid (SearchAt wr X loc (setAt hi a v) A' oc' (H ++ Hc)) ∧ Hid (MvS X w wr) ∧ Hid (wr.ownsRow w.heap.size 3 1 (.slice A6 later.length c6) later.length (ints (natI later))) ∧ Hid (Up X.n lo hi P a v loc later) ∧ Hid (∀ y ∈ later.take i, ∀ b, (y, b) ∈ P → v ≤ loc b) ∧ Hid (backL Hc loc = lo ∧ backH Hc (setAt hi a v) = hi ∧ ∀ c ∈ Hc, c.1 < X.n) ∧ Hc.length ≤ later.length)
 case atStart => exact ⟨0, _, H1, [a], _, 1, A1, oc1, rfl, Nat.zero_le _, rfl, rfl, HS2, HM2, HROW, HUP0, (fun y hy => by simp at hy), HH1.out.2, HH1.out.1⟩
 case round =>
  obtain ⟨i, loc, Hc, later, A6, c6, A', oc', hgk, hi', rfl, rfl, HSC, HMC, HRO, HUP, HDN, HBK, hlc⟩ := hrel
  have HGK := Lib.hid hgk; clear hgk HS2 HM2 HROW
  have hll := HUP.out.length
  by_cases hlt : i < later.length
  · obtain ⟨y, hy⟩ : ∃ y, later[i]? = some y := ⟨_, List.getElem?_eq_getElem hlt⟩
    have hyn := HUP.out.lt y (List.mem_of_getElem? hy)
    have hgl : X.La[y]? = some (natI (nextOf P y)) := by rw [HLA.out]; exact aftTo_next hyn
    obtain ⟨rA, rc, hva, hrw⟩ := HSC.out.aft.get (Nat.zero_le y) hgl
    have hRl := nextOf_len P y
    have HMN : Hid (∀ b, b ∈ nextOf P y ↔ (y, b) ∈ P) := fun b => mem_nextOf
    obtain ⟨R, HR⟩ : ∃ R, Hid (R = nextOf P y) := ⟨_, rfl⟩
    rw [← HR.out] at hgl hva hrw hRl HMN
    rw [natI_len] at hva hrw
    obtain ⟨g6, hA6, _, hg6, _, _, hc6⟩ := ownsRow_cell HRO.out (by omega)
    subst hA6
    have x6 : ∀ z : Bl wr, z.val.cell? ⟨g6, i, none⟩ = some (.int .i64 y) := fun z => (z.prop.cell (p := ⟨g6, i, none⟩) hg6).trans (hc6 i _ (ints_get (natI_get hy)))
    have x2 : ∀ z : Bl wr, z.val.cell? ⟨X.sb, 2, none⟩ = some (.slice (some ⟨X.ab, 0, none⟩) X.n X.n) := fun z => (HSC.out.below z.prop).box.cell rfl
    have xr : ∀ z : Bl wr, z.val.cell? ⟨X.ab, y, none⟩ = some (.slice rA R.length rc) := fun z => (HSC.out.below z.prop).aft.own.cell hva
    have i1 : (i : Int) < (later.length : Int) := by omega
    have y1 : (y : Int) < (X.n : Int) := by omega
    have HY := Lib.hid hy
    have HVA := Lib.hid hva
    clear hrw hc6 hy hva hgl
    go_upto_region 5 with (fail)
    change Code.wp _ _ _ _ (Bl.val (⟨wr, Below.refl _ _⟩ : Bl wr))
    generalize (⟨wr, Below.refl _ _⟩ : Bl wr) = za
    refine wp_region_bl (by kernel_rfl) (by kernel_rfl) ?_
    repeat (go_big_quiet_step (fail))
    refine wpQuiet_nil ?_
    rintro _ ⟨zb, rfl⟩
    have HSD := Lib.hid (HSC.out.below zb.prop)
    have HMD := Lib.hid (HMC.out.trans (MvS.of_below zb.prop))
    have HRD := Lib.hid (ownsRow_belowX HRO.out zb.prop)
    have HLE : Hid (later.take i = later.take i) := rfl
    clear x6 x2 xr HSC HMC HRO
    generalize zb.val = Wd at HSD HMD HRD ⊢
    have hR4 : R.length ≤ 4000 := by omega
    go_wp2
    go_loopg [41, 6] R.length (fun gk v41 v6 wr => ∃ (j : Nat) (loc : Nat → Int) (Hc : List (Nat × Int × Int)) (later : List Nat) (A6 : Option Addr) (c6 : Nat) (A' : Option Addr) (oc' : Nat), gk = R.length - j ∧ j ≤ R.length ∧ i < later.length ∧ v41 = .int .i64 j ∧ v6 = .slice A6 later.length c6 ∧ Hid (SearchAt wr X loc (setAt hi a v) A' oc' (H ++ Hc)) ∧ Hid (MvS X w wr) ∧ Hid (wr.ownsRow w.heap.size 3 1 (.slice A6 later.length c6) later.length (ints (natI later))) ∧ Hid (Up X.n lo hi P a v loc later) ∧ Hid (∀ y ∈ later.take i, ∀ b, (y, b) ∈ P → v ≤ loc b) ∧ Hid (later[i]? = some y) ∧ Hid (∀ b ∈ R.take j, v ≤ loc b) ∧ Hid (backL Hc loc = lo ∧ backH Hc (setAt hi a v) = hi ∧ ∀ c ∈ Hc, c.1 < X.n) ∧ Hc.length ≤ later.length)
    case atStart => exact ⟨0, loc, Hc, later, _, c6, A', oc', rfl, Nat.zero_le _, hlt, rfl, rfl, HSD, HMD, HRD, HUP, HDN, HY, (fun b hb => by simp at hb), HBK, hlc⟩
    case round =>
     clear HSD HMD HRD HUP HDN HY HBK hlc hll HLE hyn i1
     obtain ⟨j, loc, Hc, later, A6, c6, A', oc', hgk, hj, hil, rfl, rfl, HSC, HMC, HRO, HUP, HDN, HY, HDJ, HBK, hlc⟩ := hrel
     have HGJ := Lib.hid hgk; clear hgk
     have hll := HUP.out.length
     by_cases hlj : j < R.length
     · obtain ⟨x, hx⟩ : ∃ x, R[j]? = some x := ⟨_, List.getElem?_eq_getElem hlj⟩
       have hyx := (HMN.out x).1 (List.mem_of_getElem? hx)
       have hxn := (HB.out.inn _ hyx).2
       simp only at hxn
       have hstep := HUP.out.step HB.out (List.mem_of_getElem? HY.out) hyx
       have HXJ := Lib.hid hx
       have hgl : X.La[y]? = some (natI R) := by rw [HLA.out, HR.out]; exact aftTo_next (HUP.out.lt y (List.mem_of_getElem? HY.out))
       have hrw := HSC.out.aft.row y _ _ (Nat.zero_le _) HVA.out hgl
       rw [natI_len] at hrw
       obtain ⟨g, hrA, _, hg, _, _, hcg⟩ := ownsRow_cell hrw (by omega)
       subst hrA
       have x0 : wr.cell? ⟨g, j, none⟩ = some (.int .i64 x) := hcg j _ (ints_get (natI_get hx))
       have x1 : wr.cell? ⟨X.sb, 0, none⟩ = some (.slice (some ⟨X.bb, 0, none⟩) X.n X.n) := HSC.out.box.cell rfl
       have x3 := HSC.out.bnd.cell (bndC_get _ _ hxn (j := 0) (by omega))
       have x4 := HSC.out.bnd.cell (bndC_get _ _ hxn (j := 1) (by omega))
       rw [Nat.add_zero] at x3
       have j1 : (j : Int) < (R.length : Int) := by omega
       have xn1 : (x : Int) < (X.n : Int) := by omega
       clear hrw hcg hx hgl hyx
       go_upto_region 9 with (fail)
       generalize hWb : World.alloc _ _ = Wb
       obtain ⟨hbb, hxb⟩ := bx1' hWb
       have q0 : Wb.cell? ⟨wr.heap.size, 0, none⟩ = some (.int .i64 (loc x)) := (cell_of_row Wb _ 0 _ _ _ hxb).trans rfl
       have q1 : Wb.cell? ⟨wr.heap.size, 1, none⟩ = some (.int .i64 (setAt hi a v x)) := (cell_of_row Wb _ 1 _ _ _ hxb).trans rfl
       have HSB := Lib.hid (HSC.out.below hbb)
       have HMB := Lib.hid (HMC.out.trans (MvS.of_below hbb))
       have HRB := Lib.hid (ownsRow_belowX HRO.out hbb)
       have hst := set_any X loc (setAt hi a v) A' oc' (H ++ Hc) x (max (loc x) v) (setAt hi a v x) Wb HSB.out hxn (by simp; omega)
       clear hWb hbb hxb x0 x1 x3 x4 HSC HMC HRO
       have HDJ2 : ∀ f : Nat → Int, (∀ c, loc c ≤ f c) → v ≤ f x → Hid (∀ b ∈ R.take (j + 1), v ≤ f b) := fun f hf hv b hb => by
        rw [take_snocX HXJ.out] at hb
        rcases List.mem_append.1 hb with hb | hb
        · exact Int.le_trans (HDJ.out b hb) (hf b)
        · rw [List.mem_singleton.1 hb]; exact hv
       rcases hstep with ⟨hvx, hmx⟩ | ⟨hvx, hmx, hnb, hup2⟩
       · have c : loc x = max (loc x) v ∧ setAt hi a v x = setAt hi a v x := ⟨hmx.symm, rfl⟩
         rw [if_pos c, if_pos c, if_pos c, decide_eq_true c] at hst
         have HST := Lib.hid hst
         have HDJ3 := HDJ2 loc (fun _ => Int.le_refl _) hvx
         clear hst c hmx HDJ2
         go_wp2_with (go_at_call 75; refine HST.out.mono ?_; rintro e W5 ⟨A5, oc5, rfl, hs5, hm5⟩; refine Hid.out ?_)
         refine Lib.hid ?_
         have HS5 := Lib.hid hs5
         have HM5 := Lib.hid (HMB.out.trans hm5)
         have HR5 := Lib.hid (ownsRow_mvS HRB.out hm5 (by unfold TyS; decide))
         clear hs5 hm5 HSB HMB HRB HST q0 q1
         go_wp2
         go_roundg (R.length - (j + 1))
         case measure => rw [HGJ.out]; omega
         case rel => exact ⟨j + 1, loc, Hc, later, A6, c6, A5, oc5, rfl, by omega, hil, by go_num, rfl, HS5, HM5, HR5, HUP, HDN, HY, HDJ3, HBK, hlc⟩
       · have c : ¬ (loc x = max (loc x) v ∧ setAt hi a v x = setAt hi a v x) := fun h => by have := h.1; omega
         rw [if_neg c, if_neg c, if_neg c, decide_eq_false c] at hst
         have HST := Lib.hid hst
         have HMX := Lib.hid hmx
         have HUP2 := Lib.hid hup2
         have HGE : Hid (∀ c, loc c ≤ setAt loc x v c) := fun c => by
          by_cases e : c = x
          · subst e; rw [setAt_same]; omega
          · rw [setAt_other _ _ e]; exact Int.le_refl _
         have HDJ3 := HDJ2 (setAt loc x v) HGE.out (by rw [setAt_same]; exact Int.le_refl _)
         have HDN2 : Hid (∀ y ∈ (later ++ [x]).take i, ∀ b, (y, b) ∈ P → v ≤ setAt loc x v b) := fun y' hy' b hb => by
          rw [List.take_append_of_le_length (by omega)] at hy'
          exact Int.le_trans (HDN.out y' hy' b hb) (HGE.out b)
         have HY2 : Hid ((later ++ [x])[i]? = some y) := by show _ = _; rw [List.getElem?_append_left hil]; exact HY.out
         clear hst c hmx hup2 HDJ2 hnb
         go_wp2_with (first | (go_at_call 75; refine HST.out.mono ?_; rintro e W5 ⟨A5, oc5, rfl, hs5, hm5⟩; refine Hid.out ?_) | fail)
         refine Lib.hid ?_
         rw [HMX.out, setAt_self] at hs5
         have HS5 := Lib.hid hs5
         have HM5 := Lib.hid (HMB.out.trans hm5)
         have HR5 := Lib.hid (ownsRow_mvS HRB.out hm5 (by unfold TyS; decide))
         clear hs5 hm5 HSB HMB HRB HST q0 q1
         have hw5 : w.heap.size ≤ W5.heap.size := HM5.out.size
         go_wp2_with (at_builtin; refine wpList_append_oneX rfl _ _ 22 rfl 3 ii (.int .i64 0) 1 8 Tryz.underlying22 hii hiz his hib rfl (by decide) w.heap.size _ _ _ rfl HR5.out [.int .i64 x] _ rfl rfl (by intro u hu; simp only [List.mem_singleton] at hu; subst hu; rfl) rfl (by unfold maxLen; omega) (by omega) hw5 ?_; intro g7 c7 w7 hr7 hg7; refine Hid.out ?_)
         refine Lib.hid ?_
         have HU7 : Hid (Upd (fun k => (Value.slice A6 later.length c6).ownBlock = some k) W5 w7) := ((Upd.refl _ W5).alloc _).trans (Upd.of_grown hg7) (fun _ _ h => h)
         have HS7 := Lib.hid (HS5.out.updInt HU7.out (ownsRow_typed HR5.out) (fun u hu b hb hs => by have h1 := HLT.out u hu b hb; have h2 := (HR5.out.lt b hs).1; omega))
         have HM7 := Lib.hid (HM5.out.new HU7.out (fun k hk => (HR5.out.lt k hk).1))
         have hl7 : (later ++ [x]).length = later.length + 1 := by simp
         have HR7 : Hid (w7.ownsRow w.heap.size 3 1 (.slice (some ⟨g7, 0, none⟩) (later ++ [x]).length c7) (later ++ [x]).length (ints (natI (later ++ [x])))) := by
          show World.ownsRow _ _ _ _ _ _ _
          rw [hl7, natI_snoc, ints_snoc]
          exact hr7
         have HL7 := Lib.hid hl7
         have HBK7 : Hid (backL (Hc ++ [(x, loc x, setAt hi a v x)]) (setAt loc x v) = lo ∧ backH (Hc ++ [(x, loc x, setAt hi a v x)]) (setAt hi a v) = hi ∧ ∀ c ∈ Hc ++ [(x, loc x, setAt hi a v x)], c.1 < X.n) := by
          refine ⟨?_, ?_, ?_⟩
          · rw [backL_snoc, setAt_back]; exact HBK.out.1
          · rw [backH_snoc, setAt_self]; exact HBK.out.2.1
          · exact fun c hc => (List.mem_append.1 hc).elim (HBK.out.2.2 c) (fun h => by rw [List.mem_singleton.1 h]; exact hxn)
         rw [List.append_assoc] at HS7
         clear hr7 hg7 HU7 HS5 HM5 HR5 hl7
         go_wp2
         go_roundg (R.length - (j + 1))
         case measure => rw [HGJ.out]; omega
         case rel => exact ⟨j + 1, setAt loc x v, Hc ++ [(x, loc x, setAt hi a v x)], later ++ [x], _, c7, A5, oc5, rfl, by omega, by rw [HL7.out]; omega, by go_num, by rw [HL7.out], HS7, HM7, HR7, HUP2, HDN2, HY2, HDJ3, HBK7, by rw [HL7.out]; simp; omega⟩
     · obtain rfl : j = R.length := by omega
       have HDN3 : Hid (∀ y' ∈ later.take (i + 1), ∀ b, (y', b) ∈ P → v ≤ loc b) := fun y' hy' b hb => by
        rw [take_snocX HY.out] at hy'
        rcases List.mem_append.1 hy' with hy' | hy'
        · exact HDN.out y' hy' b hb
        · rw [List.mem_singleton.1 hy'] at hb
          exact HDJ.out b (by rw [List.take_length]; exact (HMN.out b).2 hb)
       clear HGJ hlj HDJ HDN
       go_wp2
       go_roundg (X.n - (i + 1))
       case measure => rw [HGK.out]; omega
       case rel => exact ⟨i + 1, loc, Hc, later, A6, c6, A', oc', rfl, by omega, by go_num, rfl, HSC, HMC, HRO, HUP, HDN3, HBK, hlc⟩
  · obtain rfl : i = later.length := by omega
    rw [List.take_length] at HDN
    clear HGK hlt
    have HUPL := HUP; clear HUP
    have HDNL := HDN; clear HDN
    have HBN2 := Lib.hid (bnd_neg HB.out)
    go_upto_region 13 with (fail)
    obtain ⟨lb, hlb⟩ : ∃ lb, lb = wr.heap.size := ⟨_, rfl⟩
    rw [← hlb]
    generalize hWb : World.alloc _ _ = Wb
    have hbb : Below wr.heap.size wr Wb := by rw [← hWb]; exact Below.alloc' (Below.refl _ _) _
    have HROW : Hid (Wb.ownsRow w.heap.size 3 1 (.slice (some ⟨lb, 0, none⟩) [a].length 1) [a].length (ints (natI [a]))) := by
     refine ⟨rfl, .inr ⟨lb, 1, #[.int .i64 a], rfl, ?_, ?_, Nat.le_refl _, by unfold maxLen; omega, rfl, rfl⟩⟩
     · rw [hlb]; exact HMC.out.size
     · rw [← hWb, hlb]; exact heap_alloc_new wr _
    have HS2 := Lib.hid (HSC.out.below hbb)
    have HM2 := Lib.hid (HMC.out.trans (MvS.of_below hbb))
    have HBK0 := HBK; clear HBK
    clear hWb hbb hlb HSC HMC HRO hi'
    go_wp2
    go_loopg [12, 11] X.n (fun gk v12 v11 wr => ∃ (i : Nat) (hic : Nat → Int) (Hd : List (Nat × Int × Int)) (earlier : List Nat) (A6 : Option Addr) (c6 : Nat) (A' : Option Addr) (oc' : Nat), gk = X.n - i ∧ i ≤ earlier.length ∧ v12 = .int .i64 i ∧ v11 = .slice A6 earlier.length c6 ∧ Hid (SearchAt wr X loc hic A' oc' (H ++ Hd)) ∧ Hid (MvS X w wr) ∧ Hid (wr.ownsRow w.heap.size 3 1 (.slice A6 earlier.length c6) earlier.length (ints (natI earlier))) ∧ Hid (Up X.n (fun i => - hi i) (fun i => - lo i) (P.map (fun p => (p.2, p.1))) a (-v) (fun i => - hic i) earlier) ∧ Hid (∀ y ∈ earlier.take i, ∀ b, (y, b) ∈ P.map (fun p => (p.2, p.1)) → -v ≤ - hic b) ∧ Hid (backL Hd loc = lo ∧ backH Hd hic = hi ∧ ∀ c ∈ Hd, c.1 < X.n) ∧ Hd.length ≤ Hc.length + earlier.length)
    case atStart => exact ⟨0, _, Hc, [a], _, 1, A', oc', rfl, Nat.zero_le _, rfl, rfl, HS2, HM2, HROW, HWN0, (fun y hy => by simp at hy), HBK0, Nat.le_add_right _ _⟩
    case round =>
     obtain ⟨i, hic, Hd, earlier, A6, c6, A2, oc2, hgk, hi', rfl, rfl, HSC, HMC, HRO, HUP, HDN, HBK, hlc⟩ := hrel
     have HGK := Lib.hid hgk; clear hgk HS2 HM2 HROW
     have hll := HUP.out.length
     by_cases hlt : i < earlier.length
     · obtain ⟨y, hy⟩ : ∃ y, earlier[i]? = some y := ⟨_, List.getElem?_eq_getElem hlt⟩
       have hyn := HUP.out.lt y (List.mem_of_getElem? hy)
       have hgl : X.Lb[y]? = some (natI (nextOf (P.map (fun p => (p.2, p.1))) y)) := by rw [HLB.out]; exact befTo_next hyn
       obtain ⟨rA, rc, hva, hrw⟩ := HSC.out.bef.get (Nat.zero_le y) hgl
       have hRl := nextOf_len (P.map (fun p => (p.2, p.1))) y
       have HMN : Hid (∀ b, b ∈ nextOf (P.map (fun p => (p.2, p.1))) y ↔ (y, b) ∈ P.map (fun p => (p.2, p.1))) := fun b => mem_nextOf
       obtain ⟨R, HR⟩ : ∃ R, Hid (R = nextOf (P.map (fun p => (p.2, p.1))) y) := ⟨_, rfl⟩
       rw [← HR.out] at hgl hva hrw hRl HMN
       rw [natI_len] at hva hrw
       rw [List.length_map] at hRl
       obtain ⟨g6, hA6, _, hg6, _, _, hc6⟩ := ownsRow_cell HRO.out (by omega)
       subst hA6
       have x6 : ∀ z : Bl wr, z.val.cell? ⟨g6, i, none⟩ = some (.int .i64 y) := fun z => (z.prop.cell (p := ⟨g6, i, none⟩) hg6).trans (hc6 i _ (ints_get (natI_get hy)))
       have x2 : ∀ z : Bl wr, z.val.cell? ⟨X.sb, 1, none⟩ = some (.slice (some ⟨X.rb, 0, none⟩) X.n X.n) := fun z => (HSC.out.below z.prop).box.cell rfl
       have xr : ∀ z : Bl wr, z.val.cell? ⟨X.rb, y, none⟩ = some (.slice rA R.length rc) := fun z => (HSC.out.below z.prop).bef.own.cell hva
       have i1 : (i : Int) < (earlier.length : Int) := by omega
       have y1 : (y : Int) < (X.n : Int) := by omega
       have HY := Lib.hid hy
       have HVA := Lib.hid hva
       clear hrw hc6 hy hva hgl
       go_upto_region 16 with (fail)
       change Code.wp _ _ _ _ (Bl.val (⟨wr, Below.refl _ _⟩ : Bl wr))
       generalize (⟨wr, Below.refl _ _⟩ : Bl wr) = za
       refine wp_region_bl (by kernel_rfl) (by kernel_rfl) ?_
       repeat (go_big_quiet_step (fail))
       refine wpQuiet_nil ?_
       rintro _ ⟨zb, rfl⟩
       have HSD := Lib.hid (HSC.out.below zb.prop)
       have HMD := Lib.hid (HMC.out.trans (MvS.of_below zb.prop))
       have HRD := Lib.hid (ownsRow_belowX HRO.out zb.prop)
       have HLE : Hid (earlier.take i = earlier.take i) := rfl
       clear x6 x2 xr HSC HMC HRO
       generalize zb.val = Wd at HSD HMD HRD ⊢
       have hR4 : R.length ≤ 4000 := by omega
       go_wp2
       go_loopg [86, 11] R.length (fun gk v86 v11 wr => ∃ (j : Nat) (hic : Nat → Int) (Hd : List (Nat × Int × Int)) (earlier : List Nat) (A6 : Option Addr) (c6 : Nat) (A' : Option Addr) (oc' : Nat), gk = R.length - j ∧ j ≤ R.length ∧ i < earlier.length ∧ v86 = .int .i64 j ∧ v11 = .slice A6 earlier.length c6 ∧ Hid (SearchAt wr X loc hic A' oc' (H ++ Hd)) ∧ Hid (MvS X w wr) ∧ Hid (wr.ownsRow w.heap.size 3 1 (.slice A6 earlier.length c6) earlier.length (ints (natI earlier))) ∧ Hid (Up X.n (fun i => - hi i) (fun i => - lo i) (P.map (fun p => (p.2, p.1))) a (-v) (fun i => - hic i) earlier) ∧ Hid (∀ y ∈ earlier.take i, ∀ b, (y, b) ∈ P.map (fun p => (p.2, p.1)) → -v ≤ - hic b) ∧ Hid (earlier[i]? = some y) ∧ Hid (∀ b ∈ R.take j, -v ≤ - hic b) ∧ Hid (backL Hd loc = lo ∧ backH Hd hic = hi ∧ ∀ c ∈ Hd, c.1 < X.n) ∧ Hd.length ≤ Hc.length + earlier.length)
       case atStart => exact ⟨0, hic, Hd, earlier, _, c6, A2, oc2, rfl, Nat.zero_le _, hlt, rfl, rfl, HSD, HMD, HRD, HUP, HDN, HY, (fun b hb => by simp at hb), HBK, hlc⟩
       case round =>
        clear HSD HMD HRD HUP HDN HY HBK hlc hll HLE hyn i1
        obtain ⟨j, hic, Hd, earlier, A6, c6, A2, oc2, hgk, hj, hil, rfl, rfl, HSC, HMC, HRO, HUP, HDN, HY, HDJ, HBK, hlc⟩ := hrel
        have HGJ := Lib.hid hgk; clear hgk
        have hll := HUP.out.length
        by_cases hlj : j < R.length
        · obtain ⟨x, hx⟩ : ∃ x, R[j]? = some x := ⟨_, List.getElem?_eq_getElem hlj⟩
          have hyx := (HMN.out x).1 (List.mem_of_getElem? hx)
          have hxn := (HBN2.out.inn _ hyx).2
          simp only at hxn
          have hstep := HUP.out.step HBN2.out (List.mem_of_getElem? HY.out) hyx
          have HXJ := Lib.hid hx
          have hgl : X.Lb[y]? = some (natI R) := by rw [HLB.out, HR.out]; exact befTo_next (HUP.out.lt y (List.mem_of_getElem? HY.out))
          have hrw := HSC.out.bef.row y _ _ (Nat.zero_le _) HVA.out hgl
          rw [natI_len] at hrw
          obtain ⟨g, hrA, _, hg, _, _, hcg⟩ := ownsRow_cell hrw (by omega)
          subst hrA
          have x0 : wr.cell? ⟨g, j, none⟩ = some (.int .i64 x) := hcg j _ (ints_get (natI_get hx))
          have x1 : wr.cell? ⟨X.sb, 0, none⟩ = some (.slice (some ⟨X.bb, 0, none⟩) X.n X.n) := HSC.out.box.cell rfl
          have x3 := HSC.out.bnd.cell (bndC_get _ _ hxn (j := 0) (by omega))
          have x4 := HSC.out.bnd.cell (bndC_get _ _ hxn (j := 1) (by omega))
          rw [Nat.add_zero] at x3
          have j1 : (j : Int) < (R.length : Int) := by omega
          have xn1 : (x : Int) < (X.n : Int) := by omega
          clear hrw hcg hx hgl hyx
          go_upto_region 20 with (fail)
          generalize hWb : World.alloc _ _ = Wb
          obtain ⟨hbb, hxb⟩ := bx1' hWb
          have q0 : Wb.cell? ⟨wr.heap.size, 0, none⟩ = some (.int .i64 (loc x)) := (cell_of_row Wb _ 0 _ _ _ hxb).trans rfl
          have q1 : Wb.cell? ⟨wr.heap.size, 1, none⟩ = some (.int .i64 (hic x)) := (cell_of_row Wb _ 1 _ _ _ hxb).trans rfl
          have HSB := Lib.hid (HSC.out.below hbb)
          have HMB := Lib.hid (HMC.out.trans (MvS.of_below hbb))
          have HRB := Lib.hid (ownsRow_belowX HRO.out hbb)
          have hst := set_any X loc hic A2 oc2 (H ++ Hd) x (loc x) (min (hic x) v) Wb HSB.out hxn (by simp; omega)
          clear hWb hbb hxb x0 x1 x3 x4 HSC HMC HRO
          have HDJ2 : ∀ f : Nat → Int, (∀ c, f c ≤ hic c) → -v ≤ - f x → Hid (∀ b ∈ R.take (j + 1), -v ≤ - f b) := fun f hf hv b hb => by
           rw [take_snocX HXJ.out] at hb
           rcases List.mem_append.1 hb with hb | hb
           · have h3 := HDJ.out b hb; have h4 := hf b; omega
           · rw [List.mem_singleton.1 hb]; exact hv
          rcases hstep with ⟨hvx, hmx⟩ | ⟨hvx, hmx, hnb, hup2⟩
          · have c : loc x = loc x ∧ hic x = min (hic x) v := ⟨rfl, by omega⟩
            rw [if_pos c, if_pos c, if_pos c, decide_eq_true c] at hst
            have HST := Lib.hid hst
            have HDJ3 := HDJ2 hic (fun _ => Int.le_refl _) hvx
            clear hst c hmx HDJ2
            go_wp2_with (go_at_call 75; refine HST.out.mono ?_; rintro e W5 ⟨A5, oc5, rfl, hs5, hm5⟩; refine Hid.out ?_)
            refine Lib.hid ?_
            have HS5 := Lib.hid hs5
            have HM5 := Lib.hid (HMB.out.trans hm5)
            have HR5 := Lib.hid (ownsRow_mvS HRB.out hm5 (by unfold TyS; decide))
            clear hs5 hm5 HSB HMB HRB HST q0 q1
            go_wp2
            go_roundg (R.length - (j + 1))
            case measure => rw [HGJ.out]; omega
            case rel => exact ⟨j + 1, hic, Hd, earlier, A6, c6, A5, oc5, rfl, by omega, hil, by go_num, rfl, HS5, HM5, HR5, HUP, HDN, HY, HDJ3, HBK, hlc⟩
          · have c : ¬ (loc x = loc x ∧ hic x = min (hic x) v) := fun h => by have := h.2; omega
            rw [if_neg c, if_neg c, if_neg c, decide_eq_false c] at hst
            have HST := Lib.hid hst
            have HMX : Hid (min (hic x) v = v) := by show _ = _; omega
            rw [neg_setAt] at hup2
            have HUP2 := Lib.hid hup2
            have HGE : Hid (∀ c, setAt hic x v c ≤ hic c) := fun c => by
             by_cases e : c = x
             · subst e; rw [setAt_same]; omega
             · rw [setAt_other _ _ e]; exact Int.le_refl _
            have HDJ3 := HDJ2 (setAt hic x v) HGE.out (by rw [setAt_same]; exact Int.le_refl _)
            have HDN2 : Hid (∀ y ∈ (earlier ++ [x]).take i, ∀ b, (y, b) ∈ P.map (fun p => (p.2, p.1)) → -v ≤ - setAt hic x v b) := fun y' hy' b hb => by
             rw [List.take_append_of_le_length (by omega)] at hy'
             have h3 := HDN.out y' hy' b hb; have h4 := HGE.out b; omega
            have HY2 : Hid ((earlier ++ [x])[i]? = some y) := by show _ = _; rw [List.getElem?_append_left hil]; exact HY.out
            clear hst c hmx hup2 HDJ2 hnb
            go_wp2_with (first | (go_at_call 75; refine HST.out.mono ?_; rintro e W5 ⟨A5, oc5, rfl, hs5, hm5⟩; refine Hid.out ?_) | fail)
            refine Lib.hid ?_
            rw [HMX.out, setAt_self] at hs5
            have HS5 := Lib.hid hs5
            have HM5 := Lib.hid (HMB.out.trans hm5)
            have HR5 := Lib.hid (ownsRow_mvS HRB.out hm5 (by unfold TyS; decide))
            clear hs5 hm5 HSB HMB HRB HST q0 q1
            have hw5 : w.heap.size ≤ W5.heap.size := HM5.out.size
            go_wp2_with (at_builtin; refine wpList_append_oneX rfl _ _ 22 rfl 3 ii (.int .i64 0) 1 8 Tryz.underlying22 hii hiz his hib rfl (by decide) w.heap.size _ _ _ rfl HR5.out [.int .i64 x] _ rfl rfl (by intro u hu; simp only [List.mem_singleton] at hu; subst hu; rfl) rfl (by unfold maxLen; omega) (by omega) hw5 ?_; intro g7 c7 w7 hr7 hg7; refine Hid.out ?_)
            refine Lib.hid ?_
            have HU7 : Hid (Upd (fun k => (Value.slice A6 earlier.length c6).ownBlock = some k) W5 w7) := ((Upd.refl _ W5).alloc _).trans (Upd.of_grown hg7) (fun _ _ h => h)
            have HS7 := Lib.hid (HS5.out.updInt HU7.out (ownsRow_typed HR5.out) (fun u hu b hb hs => by have h1 := HLT.out u hu b hb; have h2 := (HR5.out.lt b hs).1; omega))
            have HM7 := Lib.hid (HM5.out.new HU7.out (fun k hk => (HR5.out.lt k hk).1))
            have hl7 : (earlier ++ [x]).length = earlier.length + 1 := by simp
            have HR7 : Hid (w7.ownsRow w.heap.size 3 1 (.slice (some ⟨g7, 0, none⟩) (earlier ++ [x]).length c7) (earlier ++ [x]).length (ints (natI (earlier ++ [x])))) := by
             show World.ownsRow _ _ _ _ _ _ _
             rw [hl7, natI_snoc, ints_snoc]
             exact hr7
            have HL7 := Lib.hid hl7
            have HBK7 : Hid (backL (Hd ++ [(x, loc x, hic x)]) loc = lo ∧ backH (Hd ++ [(x, loc x, hic x)]) (setAt hic x v) = hi ∧ ∀ c ∈ Hd ++ [(x, loc x, hic x)], c.1 < X.n) := by
             refine ⟨?_, ?_, ?_⟩
             · rw [backL_snoc, setAt_self]; exact HBK.out.1
             · rw [backH_snoc, setAt_back]; exact HBK.out.2.1
             · exact fun c hc => (List.mem_append.1 hc).elim (HBK.out.2.2 c) (fun h => by rw [List.mem_singleton.1 h]; exact hxn)
            rw [List.append_assoc] at HS7
            clear hr7 hg7 HU7 HS5 HM5 HR5 hl7
            go_wp2
            go_roundg (R.length - (j + 1))
            case measure => rw [HGJ.out]; omega
            case rel => exact ⟨j + 1, setAt hic x v, Hd ++ [(x, loc x, hic x)], earlier ++ [x], _, c7, A5, oc5, rfl, by omega, by rw [HL7.out]; omega, by go_num, by rw [HL7.out], HS7, HM7, HR7, HUP2, HDN2, HY2, HDJ3, HBK7, by rw [HL7.out]; simp; omega⟩
        · obtain rfl : j = R.length := by omega
          have HDN3 : Hid (∀ y' ∈ earlier.take (i + 1), ∀ b, (y', b) ∈ P.map (fun p => (p.2, p.1)) → -v ≤ - hic b) := fun y' hy' b hb => by
           rw [take_snocX HY.out] at hy'
           rcases List.mem_append.1 hy' with hy' | hy'
           · exact HDN.out y' hy' b hb
           · rw [List.mem_singleton.1 hy'] at hb
             exact HDJ.out b (by rw [List.take_length]; exact (HMN.out b).2 hb)
          clear HGJ hlj HDJ HDN
          go_wp2
          go_roundg (X.n - (i + 1))
          case measure => rw [HGK.out]; omega
          case rel => exact ⟨i + 1, hic, Hd, earlier, A6, c6, A2, oc2, rfl, by omega, by go_num, rfl, HSC, HMC, HRO, HUP, HDN3, HBK, hlc⟩
     · obtain rfl : i = earlier.length := by omega
       rw [List.take_length] at HDN
       clear HGK hlt
       have hlf := HUPL.out.length
       go_wp2
       refine bodyPost_ret (v := .tuple #[]) (by simp [results, Tryz.results53, go_sem]) rfl ⟨loc, hic, A2, oc2, Hd, rfl, HSC.out, HMC.out, by omega, HBK.out.1, HBK.out.2.1, HBK.out.2.2, ⟨later, HUPL.out, HDNL.out⟩, earlier, HUP.out, HDN.out⟩
end Go.Proofs.YtahhdjeclbagnaaGreatDoor
