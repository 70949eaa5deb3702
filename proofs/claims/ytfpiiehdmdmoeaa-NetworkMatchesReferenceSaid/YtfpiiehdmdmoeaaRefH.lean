/-
  The contract of the reference's Send where the packet is valid.
-/
import Derived.Test.YtfpiiehdmdmoeaaRefG
import Derived.Test.YtfpiiehdmdmoeaaPlayWalk
import Derived.Deep.RegionLaw
import Derived.Deep.DeepCutAuto
import Derived.Deep.LoopGhost
import Derived.Deep.CutBlock
namespace Go.Proofs.Ytfpiiehdmdmoeaa
open Go.RowKit

theorem cut_row {w : World} {fblk : Option Nat} {fb foff fcap : Nat} {f : Fate} {fs : List Fate} (h : RowAt w 51 3 (.slice (some ⟨fb, foff, none⟩) (fs.length + 1) fcap) (fs.length + 1) (flatF (f :: fs)) fblk)
    {V : Value} (hV : V = Value.slice (if fcap = 1 then some ⟨fb, foff, none⟩ else some ⟨fb, foff + 3, none⟩) fs.length (fcap - 1)) (hc : fs.length + 1 ≤ fcap) :
    RowAt w 51 3 V fs.length (flatF fs) fblk := by
  have h1 := h.cut (k := 1) (c' := fcap - 1) rfl (by simp) (by omega) (by omega)
  simp only [Nat.add_sub_cancel, Nat.one_mul] at h1
  have hd : (flatF (f :: fs)).drop 3 = flatF fs := rfl
  rw [hd] at h1
  by_cases e : fcap = 1
  · subst e
    have hs : fs = [] := List.eq_nil_of_length_eq_zero (by omega)
    subst hs
    subst hV
    refine ⟨by simp [flatF], .inr ?_⟩
    rcases h1.2 with ⟨h0, _⟩ | ⟨g', off', cap', cur, hb, hv, hg, h2, h3, h4, h5⟩
    · cases h0
    · injection hv with e1 e2 e3
      injection e1 with e1
      injection e1 with e1 e4
      subst e1
      exact ⟨fb, foff, 0, cur, hb, by simp, hg, by simp, by omega, by omega, by simp [flatF]⟩
  · rw [if_neg e] at hV
    subst hV
    exact h1

theorem RefAt.setFates {w w' : World} {F : Nat → Prop} {g : Nat} {R : Rf} {fv : Value} {fblk : Option Nat} {cv : Value} {cblk : Option Nat} (hr : RefAt w F g R fv fblk cv cblk) (fv' : Value) (fs : List Fate) (hrow : RowAt w 51 3 fv' fs.length (flatF fs) fblk) (hw : w' = w.setCell ⟨g, 1, none⟩ fv') :
    RefAt w' F g ⟨R.houses, fs, R.time, R.copies⟩ fv' fblk cv cblk ∧ Upd (fun k => k = g) w w' := by
  subst hw
  have hu : Upd (fun k => k = g) w (w.setCell ⟨g, 1, none⟩ fv') := (Upd.refl (fun k => k = g) w).setCell (.inl rfl) _
  exact ⟨⟨(heap_setCell_same hr.head _).trans (by simp), hrow.keep hu (fun k hk e => hr.nf (by rw [hk, e])), hr.copies.keep hu (fun k hk e => hr.nc (by rw [hk, e])), hr.inG, hr.inF, hr.inC, fun k hk => Nat.lt_of_lt_of_le (hr.lt k hk) hu.size⟩, hu⟩

set_option maxRecDepth 100000 in
set_option maxHeartbeats 4000000 in
theorem rsend_good {w : World} {F : Nat → Prop} {g : Nat} {R : Rf} (hr : RefRep w F g R) (hok : R.Ok) (p : Pkt) (hb : okSend R.houses p = true) (f : Fate) (hf : R.fates.headD one = f) (hlow : R.copies.length + f.many ≤ 4000) :
    Calls Try.prog 15 #[.pointer (some ⟨g, 0, none⟩), .agg #[.int .i64 p.frm, .int .i64 p.dst, .string p.body]] w (RefPost (.int .i64 0) F g (R.send p).1 w) := by
  obtain ⟨a, b, s⟩ := p
  have hr1 : RefRep (w.alloc (.cells #[.int .i64 a, .int .i64 b, .string s] 31)) F g R := hr.keep (S := fun _ => False) ((Upd.refl _ w).alloc _) (fun _ _ h => h)
  obtain ⟨fv, fblk, cv, cblk, hr⟩ := hr
  have hfok : f.ok = true := by rw [← hf]; exact headD_ok hok.fates
  have hsend := rsend_eq R _ hb f hf f.many rfl hlow
  generalize hM : f.many = M at hsend hlow
  simp only [okSend, Bool.and_eq_true] at hb
  obtain ⟨⟨ea, eb⟩, eab⟩ := hb
  have eab' : (a == b) = false := by simpa using eab
  have hgl := hr.lt g hr.inG
  have ht := hok.time
  obtain ⟨fA, fcap, hfv, hfc1, hfc2⟩ := hr.fates.val
  subst hfv
  obtain ⟨cA, ccap, rfl, _, _⟩ := hr.copies.val
  have c1 := hr.c1
  have c3 := hr.c3
  obtain ⟨fl, fc, fd⟩ := f
  have hmany : (fl = true ∧ M = 0) ∨ (fl = false ∧ fc = (M : Int) ∧ M ≤ 9 ∧ 0 ≤ fd ∧ fd ≤ 100) := by
    cases fl with
    | true => exact .inl ⟨rfl, by rw [← hM]; rfl⟩
    | false =>
      obtain ⟨g1, g2, g3, g4⟩ := Fate.ok_iff hfok rfl
      simp only at g1 g2 g3 g4
      have : M = fc.toNat := by rw [← hM]; rfl
      exact .inr ⟨rfl, by omega, by omega, g3, g4⟩
  clear hM hfok
  simp only at hsend
  have H := Lib.hid hr; clear hr
  have H1 := Lib.hid hr1; clear hr1
  have Hf := Lib.hid hf; clear hf
  have HM := Lib.hid hmany; clear hmany
  have HSE := Lib.hid hsend; clear hsend
  go_enter Try.func15, Try.ntmps15
  go_upto_if 33 with (first | (go_at_call 32; refine (rhouse_any _ H1.out).mono ?_; rintro e w' ⟨rfl, rfl⟩) | fail)
  go_cut [5] (fun v5 wx => v5 = .pointer (some ⟨w.heap.size + 1, 0, none⟩) ∧ wx = (w.alloc (.cells #[.int .i64 a, .int .i64 b, .string s] 31)).alloc (.cells #[.bool fl, .int .i64 fc, .int .i64 fd] 51))
  case first =>
    cases hfs : R.fates with
    | nil =>
      have hn0 : R.fates.length = 0 := by rw [hfs]; rfl
      have e := Hf.out
      rw [hfs] at e
      simp only [List.headD_nil, one, Fate.mk.injEq] at e
      obtain ⟨rfl, rfl, rfl⟩ := e
      have hd0 : decide (0 < R.fates.length) = false := by simp [hn0]
      have HN0 := Lib.hid hn0; clear hn0
      have HFS := Lib.hid hfs; clear hfs
      go_wp2
      go_meet
      exact ⟨rfl, rfl⟩
    | cons f1 fs =>
      have hn0 : 0 < R.fates.length := by rw [hfs]; simp
      have e := Hf.out
      rw [hfs] at e
      simp only [List.headD_cons] at e
      subst e
      obtain ⟨fb, foff, fcap', hfbk, hfv, _, _, hfbl, hfcell, _⟩ := H.out.fates.form hn0
      rw [hfs] at hfcell
      injection hfv with hfv1 _ hfv3
      subst hfv1 hfv3
      have x0 : w.cell? ⟨fb, foff, none⟩ = some (.bool fl) := (hfcell 0 (by simp)).trans rfl
      have x1 : w.cell? ⟨fb, foff + 1, none⟩ = some (.int .i64 fc) := (hfcell 1 (by simp; omega)).trans rfl
      have x2 : w.cell? ⟨fb, foff + 2, none⟩ = some (.int .i64 fd) := (hfcell 2 (by simp; omega)).trans rfl
      have hd0 : decide (0 < R.fates.length) = true := by simpa using hn0
      have HFS := Lib.hid hfs; clear hfs
      have HFC := Lib.hid hfcell; clear hfcell
      have HFB := Lib.hid hfbk; clear hfbk
      go_wp2
      · go_meet
        exact ⟨rfl, rfl⟩
      · exact ((‹¬ 0 < List.length _› : ¬ 0 < ((⟨fl, fc, fd⟩ : Fate) :: fs).length) (by simp)).elim
  case rest =>
    obtain ⟨rfl, hw⟩ := hcut
    have HW1 := Lib.hid hw; clear hw
    generalize wc = W1 at HW1 ⊢
    have HU1 : Hid (Upd F w W1) := by show Upd _ _ _; rw [HW1.out]; exact (((Upd.refl _ w).alloc _).alloc _)
    have HN : Hid (RefAt W1 F g R (.slice fA R.fates.length fcap) fblk (.slice cA R.copies.length ccap) cblk) :=
      H.out.keep (S := fun _ => False) (w' := W1) (by rw [HW1.out]; exact (((Upd.refl _ w).alloc _).alloc _)) (fun _ _ h => h)
    have kp0 : W1.cell? ⟨w.heap.size, 0, none⟩ = some (.int .i64 a) := by rw [HW1.out]; go_simp
    have kp1 : W1.cell? ⟨w.heap.size, 1, none⟩ = some (.int .i64 b) := by rw [HW1.out]; go_simp
    have kp2 : W1.cell? ⟨w.heap.size, 2, none⟩ = some (.string s) := by rw [HW1.out]; go_simp
    have kf0 : W1.cell? ⟨w.heap.size + 1, 0, none⟩ = some (.bool fl) := by rw [HW1.out]; go_simp
    have kf1 : W1.cell? ⟨w.heap.size + 1, 1, none⟩ = some (.int .i64 fc) := by rw [HW1.out]; go_simp
    have kf2 : W1.cell? ⟨w.heap.size + 1, 2, none⟩ = some (.int .i64 fd) := by rw [HW1.out]; go_simp
    have HS1 : Hid (W1.heap.size = w.heap.size + 2) := by show _ = _; rw [HW1.out]; simp
    have k1 := HN.out.c1
    have k3 := HN.out.c3
    have z1 := HN.out.fz 1
    clear c1 c3
    go_upto_if 43 with (fail)
    go_cut [6] (fun v6 wx => v6 = .int .i64 (M : Int) ∧ W1 = wx)
    case first =>
      rcases HM.out with ⟨rfl, e⟩ | ⟨rfl, e, _⟩
      · have HE := Lib.hid e; clear e
        go_wp2
        go_meet
        exact ⟨by rw [HE.out]; rfl, rfl⟩
      · have HE := Lib.hid e; clear e
        go_wp2
        go_meet
        exact ⟨by rw [HE.out], rfl⟩
    case rest =>
      obtain ⟨rfl, rfl⟩ := hcut
      go_upto_if 57 with (fail)
      go_cut [4] (fun v4 wx => v4 = .int .i64 0 ∧ ∃ fv', Hid (RefAt wx F g ⟨R.houses, R.fates.tail, R.time, R.copies⟩ fv' fblk (.slice cA R.copies.length ccap) cblk) ∧ Upd (fun k => k = g) W1 wx)
      case first =>
        cases hfs : R.fates with
        | nil =>
          have hn0 : R.fates.length = 0 := by rw [hfs]; rfl
          have hd0 : decide (0 < R.fates.length) = false := by simp [hn0]
          have HN0 := Lib.hid hn0; clear hn0
          have HFS := Lib.hid hfs; clear hfs
          go_wp2
          go_meet
          refine ⟨rfl, .slice fA R.fates.length fcap, ?_, Upd.refl _ _⟩
          have h1 := HN.out
          have hf2 := HFS.out
          obtain ⟨rh, rf, rt, rc⟩ := R
          simp only at hf2
          subst hf2
          exact h1
        | cons f1 fs =>
          have hn0 : R.fates.length = fs.length + 1 := by rw [hfs]; rfl
          obtain ⟨fb, foff, fcap', hfbk, hfv, _, _, hfbl, _, _⟩ := H.out.fates.form (by omega)
          injection hfv with hfv1 _ hfv3
          subst hfv1 hfv3
          have hrow := HN.out.fates
          rw [hn0, hfs] at hrow
          rw [hn0] at k1 hfc1
          unfold maxLen at hfc2
          have HROW := Lib.hid hrow; clear hrow
          have HFS := Lib.hid hfs; clear hfs
          have HFB := Lib.hid hfbk; clear hfbk
          have HN0 := Lib.hid hn0; clear hn0
          by_cases hc1 : fcap = 1
          · have hs0 : fs.length = 0 := by omega
            have HS0 := Lib.hid hs0; clear hs0
            have HC1 := Lib.hid hc1
            go_wp2
            · go_meet
              have hset := HN.out.setFates _ fs (cut_row HROW.out (by rw [if_pos HC1.out, HC1.out]) hfc1) rfl
              refine ⟨rfl, .slice (some ⟨fb, foff, none⟩) fs.length 0, ?_, hset.2⟩
              rw [HFS.out]
              exact hset.1
            · exact ((‹¬ 0 < List.length _› : ¬ 0 < (f1 :: fs).length) (by simp)).elim
          · have HC1 := Lib.hid hc1
            go_wp2
            · go_meet
              have hset := HN.out.setFates _ fs (cut_row HROW.out (by rw [if_neg HC1.out]) hfc1) rfl
              refine ⟨rfl, .slice (some ⟨fb, foff + 3, none⟩) fs.length (fcap - 1), ?_, hset.2⟩
              rw [HFS.out]
              exact hset.1
            · exact ((‹¬ 0 < List.length _› : ¬ 0 < (f1 :: fs).length) (by simp)).elim
      case rest =>
        obtain ⟨rfl, fv2, HN, HUg⟩ := hcut
        generalize wc = W2 at HN HUg ⊢
        have HU2 : Hid (Upd F w W2) := HU1.out.trans HUg (fun i _ hi => by rw [hi]; exact H.out.inG)
        have hgx : ∀ b j, g < b → b < w.heap.size + 2 → W2.cell? ⟨b, j, none⟩ = W1.cell? ⟨b, j, none⟩ := fun b j h1 h2 => World.cell?_of_block (w := W1) (a := ⟨b, j, none⟩) (HUg.block _ (by show b < W1.heap.size; rw [HS1.out]; exact h2) (fun hc => by have hx : b = g := hc; omega))
        have kq0 : W2.cell? ⟨w.heap.size, 0, none⟩ = some (.int .i64 a) := (hgx _ _ hgl (by omega)).trans kp0
        have kq1 : W2.cell? ⟨w.heap.size, 1, none⟩ = some (.int .i64 b) := (hgx _ _ hgl (by omega)).trans kp1
        have kq2 : W2.cell? ⟨w.heap.size, 2, none⟩ = some (.string s) := (hgx _ _ hgl (by omega)).trans kp2
        have kd : W2.cell? ⟨w.heap.size + 1, 2, none⟩ = some (.int .i64 fd) := (hgx _ _ (by omega) (by omega)).trans kf2
        have HS2 : Hid (w.heap.size + 2 ≤ W2.heap.size) := by have h1 := HUg.size; have h2 := HS1.out; show _ ≤ _; omega
        clear hgx kp0 kp1 kp2 kf0 kf1 kf2 k1 k3 z1 HU1 HUg HS1
        obtain ⟨x, Hx⟩ : ∃ x : Flight, Hid (x = ⟨⟨a, b, s⟩, (R.time : Int) + fd⟩) := ⟨_, rfl⟩
        have HSEND : Hid ((R.send ⟨a, b, s⟩).1 = ⟨R.houses, R.fates.tail, R.time, R.copies ++ List.replicate M x⟩) := by
          show _ = _
          rw [HSE.out, Hx.out]
        go_wp2
        go_loopw [7] (fun i wr => ∃ m : Nat, m ≤ M ∧ i = .int .i64 m ∧ Hid (RefRep wr (fun k => F k ∨ (W2.heap.size ≤ k ∧ k < wr.heap.size)) g ⟨R.houses, R.fates.tail, R.time, R.copies ++ List.replicate m x⟩) ∧ Upd F W2 wr) (fun i _ => M - (intOf i).toNat)
        case atStart => exact ⟨0, Nat.zero_le _, rfl, by
          show RefRep _ _ _ _
          rw [List.replicate_zero, List.append_nil]
          exact ⟨_, _, _, _, HN.out.more (fun k hk => .inl hk) (fun k hk => by
            rcases hk with hk | hk
            · exact HN.out.lt k hk
            · omega)⟩, Upd.refl _ _⟩
        case round =>
          obtain ⟨m, hm, rfl, HR, HU⟩ := hrel
          by_cases hlt : m < M
          · have hfd : 0 ≤ fd ∧ fd ≤ 100 := by
              rcases HM.out with ⟨_, e⟩ | ⟨_, _, _, e1, e2⟩
              · omega
              · exact ⟨e1, e2⟩
            obtain ⟨hfd0, hfd1⟩ := hfd
            have hgx : ∀ j, wr.cell? ⟨w.heap.size, j, none⟩ = W2.cell? ⟨w.heap.size, j, none⟩ := fun j => World.cell?_of_block (w := W2) (a := ⟨w.heap.size, j, none⟩) (HU.block _ (by show w.heap.size < W2.heap.size; have := HS2.out; omega) (fun hc => by have hx : w.heap.size < w.heap.size := H.out.lt _ hc; omega))
            have hgy : ∀ j, wr.cell? ⟨w.heap.size + 1, j, none⟩ = W2.cell? ⟨w.heap.size + 1, j, none⟩ := fun j => World.cell?_of_block (w := W2) (a := ⟨w.heap.size + 1, j, none⟩) (HU.block _ (by show w.heap.size + 1 < W2.heap.size; have := HS2.out; omega) (fun hc => by have hx : w.heap.size + 1 < w.heap.size := H.out.lt _ hc; omega))
            have p0 : wr.cell? ⟨w.heap.size, 0, none⟩ = some (.int .i64 a) := (hgx 0).trans kq0
            have p1 : wr.cell? ⟨w.heap.size, 1, none⟩ = some (.int .i64 b) := (hgx 1).trans kq1
            have p2 : wr.cell? ⟨w.heap.size, 2, none⟩ = some (.string s) := (hgx 2).trans kq2
            have p3 : wr.cell? ⟨w.heap.size + 1, 2, none⟩ = some (.int .i64 fd) := (hgy 2).trans kd
            clear hgx hgy
            obtain ⟨fv', fblk', cv', cblk', hr'⟩ := HR.out
            obtain ⟨A, c, rfl, _, _⟩ := hr'.copies.val
            have hlen : (R.copies ++ List.replicate m x).length = R.copies.length + m := by simp
            obtain ⟨A2, c2, w2, hrun, hrep, hupd, hu2⟩ := rappend hr' x A c rfl (by simp only [hlen]; omega)
            have q2 := hr'.c2
            have q3 := hr'.c3
            have zf := hr'.fz 3
            simp only at q2 q3 hlen hrun hrep hupd
            rw [hlen] at q3 hrun hrep hupd
            have hbn : cblk' ≠ some g := hr'.nc
            have hb1 : cblk' ≠ some w.heap.size := fun e => by
              rcases hr'.inC _ e with hc | hc
              · have := H.out.lt _ hc; omega
              · have := HS2.out; omega
            have hb2 : cblk' ≠ some (w.heap.size + 1) := fun e => by
              rcases hr'.inC _ e with hc | hc
              · have := H.out.lt _ hc; omega
              · have := HS2.out; omega
            have hgl2 : g < wr.heap.size := Nat.lt_of_lt_of_le hgl (by have := HU.size; have := HS2.out; omega)
            have hwl : w.heap.size + 1 < wr.heap.size := by have := HU.size; have := HS2.out; omega
            have keep : ∀ (b : Nat) (j : Nat), b < wr.heap.size → cblk' ≠ some b → w2.cell? ⟨b, j, none⟩ = wr.cell? ⟨b, j, none⟩ := fun b j hb hn => World.cell?_of_block (w := wr) (a := ⟨b, j, none⟩) (hu2.block _ hb hn)
            have k3 : w2.cell? ⟨g, 3, none⟩ = some (.slice A (R.copies.length + m) c) := (keep _ _ hgl2 hbn).trans q3
            have z3 : w2.frozen? ⟨g, 3, none⟩ = false := (World.frozen?_of_block (w := wr) (a := ⟨g, 3, none⟩) (hu2.block _ hgl2 hbn)).trans zf
            rw [Hx.out] at hrun
            have HZS : Hid ((w2.setCell ⟨g, 3, none⟩ (.slice A2 (R.copies.length + m + 1) c2)).heap.size = w2.heap.size) := by show _ = _; simp [World.setCell]
            have HRUN := Lib.hid hrun; clear hrun
            have HREP := Lib.hid hrep; clear hrep
            have HUPD := Lib.hid hupd; clear hupd
            have HUW := Lib.hid hu2; clear hu2
            have HR' := Lib.hid hr'; clear hr'
            have HLEN := Lib.hid hlen; clear hlen
            clear keep zf hb1 hb2 hbn
            have hm1 : (m : Int) < (M : Int) := by omega
            have hwp : IntKind.i64.wrap ((R.time : Int) + fd) = (R.time : Int) + fd := IntWalk.i64_in _ (by omega)
            go_wp2_with fail
            apply Code.wp_mono (Q := EndsAt _ (w2.setCell ⟨g, 3, none⟩ (.slice A2 (R.copies.length + m + 1) c2)))
            case h =>
              go_region_law ((refine step_append_run (o := ⟨some 86, _, _, _, _, _⟩) (by rfl) (.tmp 75) (.tmp 85) 60 60 (by rfl) (.slice A (R.copies.length + m) c) (.slice (some ⟨wr.heap.size, 0, none⟩) 1 1) (by simp [Act.eval]) (by simp [Act.eval]) HRUN.out ?_))
              all_goals exact ⟨rfl, rfl⟩
            case hq =>
              intro e a' wx he
              obtain ⟨rfl, rfl, rfl⟩ := EndsAt.out he
              clear hwp
              go_wp2_with fail
              go_roundw
              case rel => exact ⟨m + 1, by omega, by go_num, by
                show RefRep _ _ _ _
                rw [List.replicate_succ', ← List.append_assoc]
                obtain ⟨_, _, _, _, hfa⟩ := HREP.out
                exact ⟨_, _, _, _, hfa.more (fun i hi => by
                  have hz2 := HU.size
                  rcases hi with (hi | hi) | hi
                  · exact .inl hi
                  · exact .inr ⟨hi.1, by have := HUW.out.size; rw [HZS.out]; omega⟩
                  · exact .inr ⟨by omega, by rw [HZS.out]; omega⟩) (fun i hi => by
                  rcases hi with hi | hi
                  · exact hfa.lt i (.inl (.inl hi))
                  · exact hi.2)⟩, HU.trans HUPD.out (fun k hk hi => by
                  rcases hi with hi | hi
                  · exact hi
                  · omega)⟩
              case measure => simp [intOf]; omega
          · obtain rfl : M = m := by omega
            go_wp2
            go_ret
            refine ⟨rfl, ?_, HU2.out.trans HU (fun _ _ h => h)⟩
            rw [HSEND.out]
            obtain ⟨_, _, _, _, hfa⟩ := HR.out
            exact ⟨_, _, _, _, hfa.more (fun i hi => by
              have hz := HU2.out.size
              rcases hi with hi | hi
              · exact .inl hi
              · exact .inr ⟨by omega, hi.2⟩) (fun i hi => by
              have hz := HU2.out.size
              have hz2 := HU.size
              rcases hi with hi | hi
              · exact hfa.lt i (.inl hi)
              · exact hi.2)⟩

end Go.Proofs.Ytfpiiehdmdmoeaa
