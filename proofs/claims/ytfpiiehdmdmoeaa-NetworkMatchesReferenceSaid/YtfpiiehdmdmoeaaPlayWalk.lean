/-
  The contract of play.
-/
import Derived.Test.YtfpiiehdmdmoeaaPlayMem
import Derived.Test.YtfpiiehdmdmoeaaSend6
import Derived.Deep.DeepCutAuto
import Derived.Deep.CutBlock
import Derived.Deep.RegionHeld3
namespace Go.Proofs.Ytfpiiehdmdmoeaa
open Go.RowKit

/-- Behind a region: this frame and this world, whatever the order was. -/
def EndsAt (fr : Act) (W : World) : Exit → Act → World → Prop
  | .normal, a, w => a = fr ∧ w = W
  | _, _, _ => False
theorem EndsAt.out {fr : Act} {W : World} : ∀ {e : Exit} {a : Act} {w : World}, EndsAt fr W e a w → e = .normal ∧ a = fr ∧ w = W
  | .normal, _, _, h => ⟨rfl, h.1, h.2⟩
  | .ret, _, _, h => h.elim
  | .exit _, _, _, h => h.elim
  | .panic _, _, _, h => h.elim
  | .goto _, _, _, h => h.elim
  | .outgrown, _, _, h => h.elim

theorem flatP_append (a b : List Pkt) : flatP (a ++ b) = flatP a ++ flatP b := by simp [flatP]

theorem info36 : (Try.prog.info? 36).map (fun i => (i.zero, i.size, i.bytes)) = some (some (.slice none 0 0), 1, 24) := by kernel_rfl

def pst (N : Net) (houses : Nat) (fates : List Fate) (l : List Opn) (j : Nat) : St := (St.start N houses).run fates (l.take j)
theorem pst_zero (N : Net) (houses : Nat) (fates : List Fate) (l : List Opn) : pst N houses fates l 0 = St.start N houses := rfl
theorem pst_end (N : Net) (houses : Nat) (fates : List Fate) (l : List Opn) : pst N houses fates l l.length = (St.start N houses).run fates l := by
  unfold pst
  rw [List.take_of_length_le (Nat.le_refl _)]
theorem pst_succ (N : Net) (houses : Nat) (fates : List Fate) (l : List Opn) (j : Nat) (o : Opn) (ho : l[j]? = some o) : pst N houses fates l (j + 1) = (pst N houses fates l j).step fates o := by
  obtain ⟨hj, rfl⟩ := List.getElem?_eq_some_iff.1 ho
  unfold pst
  rw [List.take_succ_eq_append_getElem hj, St.run_snoc]
theorem pst_inv {N : Net} {houses : Nat} {fates : List Fate} {l : List Opn} (hf : ∀ f ∈ fates, f.ok = true) (hok : N.Ok) (ht : N.time = 0) (hh : N.queues.length = houses) (hl : l.length ≤ 1000) (j : Nat) (hj : j ≤ l.length) : (pst N houses fates l j).Inv j ∧ (pst N houses fates l j).got.length = houses := by
  have h0 : (St.start N houses).Inv 0 := ⟨hok, by simp [St.start, hh], by simp [St.start, ht], by simp [St.start], by simp [St.start], fun q hq => by
    have := List.eq_of_mem_replicate hq
    subst this
    simp⟩
  have h1 := St.run_inv hf (l.take j) h0 (by rw [List.length_take]; omega)
  rw [List.length_take, Nat.min_eq_left hj, Nat.zero_add] at h1
  exact ⟨h1, by unfold pst; rw [St.run_len]; simp [St.start]⟩

theorem start_mem {w : World} {F0 : Nat → Prop} {g : Nat} {N : Net} (hr : NetRep w F0 g N) (houses : Nat) {MC : Array Value} (hMC : (List.replicate houses (Value.slice none 0 0)).toArray = MC) :
    PlayAt w F0 F0 (fun k => k = w.heap.size + 1 ∨ k = w.heap.size + 1 + 1) g (w.heap.size + 1 + 1) (w.heap.size + 1) (St.start N houses).net (St.start N houses).sent (St.start N houses).got
      (((w.alloc (.cells #[.slice none 0 0, .slice none 0 0] 46)).alloc (.cells MC 36)).alloc (.cells #[.slice none 0 0, .slice (some ⟨w.heap.size + 1, 0, none⟩) houses houses] 46)) := by
  subst hMC
  have hu1 : Upd (fun _ => False) w (((w.alloc (.cells #[.slice none 0 0, .slice none 0 0] 46)).alloc (.cells (List.replicate houses (Value.slice none 0 0)).toArray 36)).alloc (.cells #[.slice none 0 0, .slice (some ⟨w.heap.size + 1, 0, none⟩) houses houses] 46)) := (((Upd.refl _ w).alloc _).alloc _).alloc _
  have hu2 : Upd (fun _ => False) (w.alloc (.cells #[.slice none 0 0, .slice none 0 0] 46)) (((w.alloc (.cells #[.slice none 0 0, .slice none 0 0] 46)).alloc (.cells (List.replicate houses (Value.slice none 0 0)).toArray 36)).alloc (.cells #[.slice none 0 0, .slice (some ⟨w.heap.size + 1, 0, none⟩) houses houses] 46)) := ((Upd.refl _ _).alloc _).alloc _
  have hu3 : Upd (fun _ => False) ((w.alloc (.cells #[.slice none 0 0, .slice none 0 0] 46)).alloc (.cells (List.replicate houses (Value.slice none 0 0)).toArray 36)) (((w.alloc (.cells #[.slice none 0 0, .slice none 0 0] 46)).alloc (.cells (List.replicate houses (Value.slice none 0 0)).toArray 36)).alloc (.cells #[.slice none 0 0, .slice (some ⟨w.heap.size + 1, 0, none⟩) houses houses] 46)) := (Upd.refl _ _).alloc _
  have g1 := heap_alloc_new (w.alloc (.cells #[.slice none 0 0, .slice none 0 0] 46)) (.cells (List.replicate houses (Value.slice none 0 0)).toArray 36)
  have g2 := heap_alloc_new ((w.alloc (.cells #[.slice none 0 0, .slice none 0 0] 46)).alloc (.cells (List.replicate houses (Value.slice none 0 0)).toArray 36)) (.cells #[.slice none 0 0, .slice (some ⟨w.heap.size + 1, 0, none⟩) houses houses] 46)
  have g3 := heap_alloc_new w (.cells #[.slice none 0 0, .slice none 0 0] 46)
  have g1' := hu3.keep g1 (fun h => h)
  have g3' := hu2.keep g3 (fun h => h)
  simp only [World.size_alloc] at g1' g2 g3'
  refine ⟨hr.keep hu1 (fun _ _ h => h), ⟨.slice none 0 0, none, List.replicate houses (.slice none 0 0), fun _ => none, ?_⟩, fun k hk hg => ?_, fun k hk => .inl hk, fun k hk => by omega, hr.lt, hu1.mono (fun _ _ h => h.elim), g3'⟩
  · refine ⟨by simpa [St.start] using g2, g1', by simp [St.start], RowAt.nil _ _ _, fun h hh => ?_, (fun _ _ _ _ _ h => by cases h), (fun _ _ _ h => by cases h), .inr rfl, .inl rfl, (fun _ h => by cases h), (fun _ _ _ h => by cases h), fun k hk => by simp only [World.size_alloc]; omega⟩
    have hi2 : h < houses := by simpa [St.start] using hh
    have h1 : (St.start N houses).got.getD h [] = [] := by simp [St.start, hi2]
    have h2 : (List.replicate houses (Value.slice none 0 0)).getD h undef = .slice none 0 0 := by simp [hi2]
    rw [h1, h2]
    exact RowAt.nil _ _ _
  · have := hr.lt k hk
    omega

theorem play_out {w : World} {F0 F G : Nat → Prop} {g bb gb : Nat} {s : St} {wr : World} (hp : PlayAt w F0 F G g bb gb s.net s.sent s.got wr) {sv : Value} {sblk : Option Nat} {vs : List Value} {gblk : Nat → Option Nat} (hb : BookAt wr G bb gb s.sent s.got sv sblk vs gblk) {a b : Value} :
    PlayOut F0 g s w sv bb gb F G ((wr.setCell ⟨w.heap.size, 0, none⟩ a).setCell ⟨w.heap.size, 1, none⟩ b) := by
  have hu : Upd (fun k => k = w.heap.size) wr ((wr.setCell ⟨w.heap.size, 0, none⟩ a).setCell ⟨w.heap.size, 1, none⟩ b) := ((Upd.refl (fun k => k = w.heap.size) wr).setCell (.inl rfl) _).setCell (.inl rfl) _
  have hb2 := hb.keep hu (fun k hk e => hp.resG (e ▸ hk))
  exact ⟨hp.net.keep hu (fun k hk e => hp.resF (e ▸ hk)), ⟨_, _, _, _, hb2⟩, hb2.c0, hp.apart, hp.lowF, hp.lowG, hp.upd.trans hu (fun i hi e => by omega)⟩

set_option maxRecDepth 100000 in
set_option maxHeartbeats 2000000 in
theorem play_any {w : World} {F0 : Nat → Prop} {g : Nat} {N : Net} (hr : NetRep w F0 g N) (hok : N.Ok) (ht : N.time = 0) (houses : Nat) (hh : N.queues.length = houses) (fv lv : Value) (fates : List Fate) (hfok : ∀ f ∈ fates, f.ok = true) (l : List Opn)
    (hf : ArgX w F0 3 fv fates.length (flatF fates)) (hl : ArgX w F0 5 lv l.length (flatO l)) (hll : l.length ≤ 1000) :
    Calls Try.prog 25 #[.pointer (some ⟨g, 0, none⟩), .int .i64 houses, fv, lv] w (PlayPost F0 g ((St.start N houses).run fates l) w) := by
  obtain ⟨fA, fc, rfl, hfs, hfn, hfx⟩ := hf
  obtain ⟨lA, lc, rfl, hls, hln, hlx⟩ := hl
  have hq12 : houses ≤ 12 := by rw [← hh]; exact hok.houses.2
  obtain ⟨i0, hi0, hz0, hz1, hz2⟩ := info_parts info36
  have hmk : ∀ W : World, (Instr.makeSlice 44 (.int .i64 (houses : Int)) (.int .i64 (houses : Int))).run Try.prog W = .ok (.slice (some ⟨W.heap.size, 0, none⟩) houses houses) (W.alloc (.cells (madeCells #[.slice none 0 0] houses) 36)) := fun W => by
    have hmk0 := run_make_rowN (P := Try.prog) 44 36 i0 _ Try.underlying44 hi0 hz0 .i64 .i64 houses houses (Nat.le_refl _) (by rw [hz2]; omega) (by omega) W
    rw [hz1, Nat.mul_one] at hmk0
    exact hmk0
  rw [madeCells_list] at hmk
  generalize hMC : (List.replicate houses (Value.slice none 0 0)).toArray = MC at hmk
  have HMC := Lib.hid hMC; clear hMC
  have HFS : Hid (Src w 3 fA fates.length (flatF fates) ∧ ∀ ad, fA = some ad → 0 < fates.length → ¬ F0 ad.block) := ⟨hfs, hfx⟩
  have HLS : Hid (Src w 5 lA l.length (flatO l) ∧ ∀ ad, lA = some ad → 0 < l.length → ¬ F0 ad.block) := ⟨hls, hlx⟩
  clear hfs hfx hls hlx hfn hln
  have HR := Lib.hid hr; clear hr
  have HOK := Lib.hid hok; clear hok
  have HFOK := Lib.hid hfok; clear hfok
  have HH := Lib.hid hh; clear hh
  have HT := Lib.hid ht; clear ht
  go_enter Try.func25, Try.ntmps25
  go_wp2
  go_loopg [10, 11] l.length (fun gk u i wr => ∃ (j : Nat) (F G : Nat → Prop), gk = l.length - j ∧ j ≤ l.length ∧ i = .int .i64 j ∧ u = .int .i64 (pst N houses fates l j).used ∧ PlayAt w F0 F G g (w.heap.size + 1 + 1) (w.heap.size + 1) (pst N houses fates l j).net (pst N houses fates l j).sent (pst N houses fates l j).got wr)
  case atStart => exact ⟨0, _, _, rfl, Nat.zero_le _, rfl, rfl, start_mem HR.out houses HMC.out⟩
  case round =>
    obtain ⟨j, F, G, hgk, hj, rfl, rfl, hp⟩ := hrel
    have HGK := Lib.hid hgk; clear hgk
    obtain ⟨hinv, hgl⟩ := pst_inv HFOK.out HOK.out HT.out HH.out hll j hj
    by_cases hlt : j < l.length
    · have hsu := HLS.out.1.upd (by omega) HLS.out.2 hp.upd
      obtain ⟨lb, loff, rfl, hlbl, hlc⟩ := hsu.form (by omega) (by omega)
      obtain ⟨o, ho⟩ : ∃ o, l[j]? = some o := ⟨l[j], List.getElem?_eq_getElem hlt⟩
      have hcw : ∀ i, i < 5 → wr.cell? ⟨lb, loff + j * 5 + i, none⟩ = o.cells[i]? := fun i hi => by
        rw [Nat.add_assoc, hlc _ (by omega)]
        exact get_flat _ 5 (fun _ => rfl) l j i o ho hi
      obtain ⟨kd, hs, ⟨pa, pb, ps⟩⟩ := o
      have k0 : wr.cell? ⟨lb, loff + j * 5, none⟩ = some (.int .i64 kd) := hcw 0 (by omega)
      have k1 : wr.cell? ⟨lb, loff + j * 5 + 1, none⟩ = some (.int .i64 hs) := hcw 1 (by omega)
      have k2 : wr.cell? ⟨lb, loff + j * 5 + 2, none⟩ = some (.int .i64 pa) := hcw 2 (by omega)
      have k3 : wr.cell? ⟨lb, loff + j * 5 + 2 + 1, none⟩ = some (.int .i64 pb) := hcw 3 (by omega)
      have k4 : wr.cell? ⟨lb, loff + j * 5 + 2 + 2, none⟩ = some (.string ps) := hcw 4 (by omega)
      have hst := pst_succ N houses fates l j _ ho
      have HST := Lib.hid hst; clear hst
      have HSU := Lib.hid hsu; clear hsu
      have HLC := Lib.hid hlc; clear hlc
      have HO := Lib.hid ho; clear ho
      clear hcw
      have HP := Lib.hid hp; clear hp
      have HI := Lib.hid hinv; clear hinv
      have HG := Lib.hid hgl; clear hgl
      generalize hsj : pst N houses fates l j = sj at HP HI HG HST ⊢
      have HSJ := Lib.hid hsj; clear hsj
      have hlF : ¬ F lb ∧ ¬ G lb := by
        obtain ⟨b', off', e, hlt', _⟩ := HLS.out.1.form (by omega) (by omega)
        injection e with e
        injection e with e _
        subst e
        refine ⟨fun hc => ?_, fun hc => ?_⟩
        · rcases HP.out.lowF _ hc with h1 | h1
          · exact HLS.out.2 _ rfl (by omega) h1
          · omega
        · have := HP.out.lowG _ hc; omega
      have HLF := Lib.hid hlF; clear hlF
      by_cases e0 : kd = 0
      · subst e0
        have hsend := send_net HP.out.net HI.out.ok ⟨pa, pb, ps⟩
        unfold Pkt.val at hsend
        simp only at hsend
        have hstep : sj.step fates ⟨0, hs, ⟨pa, pb, ps⟩⟩ = if (sj.net.send ⟨pa, pb, ps⟩).2 = 0 then ⟨(sj.net.send ⟨pa, pb, ps⟩).1, sj.used + 1, sj.sent ++ List.replicate (fates.getD sj.used one).many ⟨pa, pb, ps⟩, sj.got⟩ else ⟨(sj.net.send ⟨pa, pb, ps⟩).1, sj.used, sj.sent, sj.got⟩ := by simp [St.step]
        generalize (sj.net.send ⟨pa, pb, ps⟩).1 = N2 at hsend hstep
        generalize (sj.net.send ⟨pa, pb, ps⟩).2 = er at hsend hstep
        have HSEND := Lib.hid hsend; clear hsend
        by_cases er0 : er = 0
        · subst er0
          rw [if_pos rfl] at hstep
          have hM9 := many_le9 HFOK.out sj.used
          have hu9 := HI.out.used
          have hs9 := HI.out.sent
          generalize hM : (fates.getD sj.used one).many = M at hstep hM9
          have HMM := Lib.hid hM; clear hM
          have HSP := Lib.hid hstep; clear hstep
          go_upto_if 45 with (go_at_call 14; refine HSEND.out.mono ?_; rintro e w' ⟨rfl, hn, hu⟩; have HN := Lib.hid hn; clear hn; have HU := Lib.hid hu; clear hu)
          go_cut [12] (fun v12 wx => v12 = .int .i64 M ∧ w' = wx)
          case first =>
            by_cases hul : sj.used < fates.length
            · obtain ⟨f, hf⟩ : ∃ f, fates[sj.used]? = some f := ⟨fates[sj.used], List.getElem?_eq_getElem hul⟩
              have hfsu := HFS.out.1.upd (by omega) HFS.out.2 (HP.out.onNet HN.out HU.out).upd
              obtain ⟨fb, foff, rfl, hfbl, hfc⟩ := hfsu.form (by omega) (by omega)
              have hcw : ∀ i, i < 3 → w'.cell? ⟨fb, foff + sj.used * 3 + i, none⟩ = f.cells[i]? := fun i hi => by
                rw [Nat.add_assoc, hfc _ (by omega)]
                exact get_flat _ 3 (fun _ => rfl) fates sj.used i f hf hi
              have hfok := HFOK.out f (List.mem_of_getElem? hf)
              have hMf : f.many = M := by rw [← HMM.out]; simp [hf]
              obtain ⟨fl, fcp, fd⟩ := f
              have f0 : w'.cell? ⟨fb, foff + sj.used * 3, none⟩ = some (.bool fl) := hcw 0 (by omega)
              have f1 : w'.cell? ⟨fb, foff + sj.used * 3 + 1, none⟩ = some (.int .i64 fcp) := hcw 1 (by omega)
              have HFSU := Lib.hid hfsu; clear hfsu
              have HFC := Lib.hid hfc; clear hfc
              have HF := Lib.hid hf; clear hf
              clear hcw
              have hul' : (sj.used : Int) < (fates.length : Int) := by omega
              cases fl with
              | true =>
                have HMF := Lib.hid hMf; clear hMf hfok
                go_wp2_with fail
                go_meet
                exact ⟨by rw [← HMF.out]; rfl, rfl⟩
              | false =>
                have h1 := (Fate.ok_iff hfok rfl).1
                simp only at h1
                have HMF := Lib.hid hMf; clear hMf hfok
                go_wp2_with fail
                go_meet
                refine ⟨?_, rfl⟩
                rw [← HMF.out]
                simp only [Fate.many, Bool.false_eq_true, if_false]
                rw [Int.toNat_of_nonneg (by omega)]
            · have hd : decide ((sj.used : Int) < (fates.length : Int)) = false := by simp; omega
              have hM1 : M = 1 := by rw [← HMM.out]; simp [List.getElem?_eq_none (Nat.le_of_not_lt hul), one, Fate.many]
              have HM1 := Lib.hid hM1; clear hM1
              go_wp2_with fail
              go_meet
              exact ⟨by rw [HM1.out]; rfl, rfl⟩
          case rest =>
            obtain ⟨rfl, rfl⟩ := hcut
            obtain ⟨F2, hp2⟩ : ∃ F2, PlayAt w F0 F2 G g (w.heap.size + 1 + 1) (w.heap.size + 1) N2 sj.sent sj.got w' := ⟨_, HP.out.onNet HN.out HU.out⟩
            have HP2 := Lib.hid hp2; clear hp2
            obtain ⟨gko, HGKO⟩ : ∃ gko, Hid (gko = gk) := ⟨_, rfl⟩
            go_wp2_with fail
            go_loopg [13] M (fun gk2 v wx => ∃ (m : Nat) (G2 : Nat → Prop), gk2 = M - m ∧ m ≤ M ∧ v = .int .i64 m ∧ PlayAt w F0 F2 G2 g (w.heap.size + 1 + 1) (w.heap.size + 1) N2 (sj.sent ++ List.replicate m ⟨pa, pb, ps⟩) sj.got wx)
            case atStart => exact ⟨0, G, rfl, Nat.zero_le _, rfl, by rw [List.replicate_zero, List.append_nil]; exact HP2.out⟩
            case round =>
              obtain ⟨m, G2, hgk2, hm, rfl, hp3⟩ := hrel
              have HGK2 := Lib.hid hgk2; clear hgk2
              by_cases hlt2 : m < M
              · have hsu2 := HLS.out.1.upd (by omega) HLS.out.2 hp3.upd
                obtain ⟨lb2, loff2, hle, hlbl2, hlc2⟩ := hsu2.form (by omega) (by omega)
                injection hle with hle
                injection hle with hle1 hle2
                subst hle1 hle2
                have hcw : ∀ i, i < 5 → wr.cell? ⟨lb, loff + j * 5 + i, none⟩ = (Opn.mk 0 hs ⟨pa, pb, ps⟩).cells[i]? := fun i hi => by
                  rw [Nat.add_assoc, hlc2 _ (by omega)]
                  exact get_flat _ 5 (fun _ => rfl) l j i _ HO.out hi
                have p2 : wr.cell? ⟨lb, loff + j * 5 + 2, none⟩ = some (.int .i64 pa) := hcw 2 (by omega)
                have p3 : wr.cell? ⟨lb, loff + j * 5 + 2 + 1, none⟩ = some (.int .i64 pb) := hcw 3 (by omega)
                have p4 : wr.cell? ⟨lb, loff + j * 5 + 2 + 2, none⟩ = some (.string ps) := hcw 4 (by omega)
                clear hcw hsu2 hlc2
                obtain ⟨sv, sblk, vs, gblk, hb⟩ := hp3.book
                obtain ⟨sA, sc, rfl, _, _⟩ := hb.sentR.val
                have kb0 := hb.c0
                have hbl := lt_of_heap hb.head
                have hbn : sblk ≠ some (w.heap.size + 1 + 1) := fun hc => hb.sentR.ne_type hb.head (by decide) hc
                have hsl : (sj.sent ++ List.replicate m (⟨pa, pb, ps⟩ : Pkt)).length = sj.sent.length + m := by simp
                have hrow0 := hb.sentR
                rw [hsl] at kb0 hrow0
                have hu0 : Upd (fun _ => False) wr (wr.drew.alloc (.cells #[.int .i64 pa, .int .i64 pb, .string ps] 31)) := ((Upd.refl _ wr).drew).alloc _
                obtain ⟨i1, hi1, hy0, hy1, hy2⟩ := info_parts info31
                obtain ⟨v2, w2, blk2, hrun, hrow2, hu2, hb2⟩ := run_append_row (P := Try.prog) (wr.drew.alloc (.cells #[.int .i64 pa, .int .i64 pb, .string ps] 31)) 36 36 31 i1 _ 3 32 Try.underlying36 hi1 hy0 hy1 hy2 rfl (.slice sA (sj.sent.length + m) sc) (sj.sent.length + m) _ sblk (hrow0.keep hu0 (fun _ _ h => h))
                  (some ⟨wr.heap.size, 0, none⟩) 1 1 (Pkt.cells ⟨pa, pb, ps⟩) (src_new wr.drew (Pkt.cells ⟨pa, pb, ps⟩) 3 31 (by simp [Pkt.cells, Value.oneCell']) rfl rfl) (by unfold maxLen; omega) (by omega)
                obtain ⟨A2, c2, rfl, _, _⟩ := hrow2.val
                have hu3 : Upd (fun k => sblk = some k) wr w2 := (hu0.mono (S' := fun k => sblk = some k) (fun _ _ h => h.elim)).trans hu2 (fun _ _ h => h)
                have kb0' : w2.cell? ⟨w.heap.size + 1 + 1, 0, none⟩ = some (.slice sA (sj.sent.length + m) sc) := (World.cell?_of_block (w := wr) (a := ⟨w.heap.size + 1 + 1, 0, none⟩) (hu3.block _ hbl hbn)).trans kb0
                have zb0' : w2.frozen? ⟨w.heap.size + 1 + 1, 0, none⟩ = false := (World.frozen?_of_block (w := wr) (a := ⟨w.heap.size + 1 + 1, 0, none⟩) (hu3.block _ hbl hbn)).trans (hb.fb 0)
                have hset := hb.setSent (.slice A2 (sj.sent.length + m + 1) c2) (sj.sent ++ List.replicate (m + 1) ⟨pa, pb, ps⟩) blk2 (n' := sj.sent.length + m + 1) (by simp only [List.length_append, List.length_replicate]; omega) (by
                  rw [List.replicate_succ', ← List.append_assoc, flatP_append]
                  exact hrow2) (by rcases hb2 with e | ⟨k, e, hk⟩; exact .inl e; exact .inr ⟨k, e, Nat.le_trans hu0.size hk⟩) hu3
                have HSET := Lib.hid hset; clear hset
                have HP3 := Lib.hid hp3; clear hp3
                have HB := Lib.hid hb; clear hb
                have HRUN := Lib.hid hrun; clear hrun
                have HROW2 := Lib.hid hrow2; clear hrow2
                have HU2 := Lib.hid hu2; clear hu2
                have HU3 := Lib.hid hu3; clear hu3
                have HB2 := Lib.hid hb2; clear hb2
                have HR0 := Lib.hid hrow0; clear hrow0
                have HSL := Lib.hid hsl; clear hsl
                have HU0 := Lib.hid hu0; clear hu0
                clear hbn k0 k1 k2 k3 k4 hmk
                have q2 : (0 : Int) ≤ (j : Int) := by omega
                have q3 : (j : Int) < (l.length : Int) := by omega
                go_wp2_with fail
                apply Code.wp_mono (Q := EndsAt _ (w2.setCell ⟨w.heap.size + 1 + 1, 0, none⟩ (.slice A2 (sj.sent.length + m + 1) c2)))
                case h =>
                  go_region_law ((refine step_append_run (o := ⟨some 71, _, _, _, _, _⟩) (by rfl) (.tmp 64) (.tmp 70) 36 36 (by rfl) (.slice sA (sj.sent.length + m) sc) (.slice (some ⟨wr.heap.size, 0, none⟩) 1 1) (by simp [Act.eval]) (by simp [Act.eval]) HRUN.out ?_))
                  all_goals exact ⟨rfl, rfl⟩
                case hq =>
                  intro e a' wx he
                  obtain ⟨rfl, rfl, rfl⟩ := EndsAt.out he
                  go_wp2_with fail
                  go_roundg (M - (m + 1))
                  case measure => rw [HGK2.out]; omega
                  case rel => exact ⟨m + 1, _, rfl, by omega, by go_num, HP3.out.onBook HSET.out.1 HSET.out.2⟩
              · obtain rfl : M = m := by omega
                have HP3 := Lib.hid hp3; clear hp3
                go_wp2_with fail
                go_roundg (l.length - (j + 1))
                case measure => rw [← HGKO.out, HGKO.out, HGK.out]; omega
                case rel => exact ⟨j + 1, _, _, rfl, by omega, by go_num, by rw [HST.out, HSP.out]; go_num, by rw [HST.out, HSP.out]; exact HP3.out⟩
        · rw [if_neg er0] at hstep
          have HSP := Lib.hid hstep; clear hstep
          have eb : (er != 0) = true := by simpa using er0
          clear er0
          go_wp2_with (go_at_call 14; refine HSEND.out.mono ?_; rintro e w' ⟨rfl, hn, hu⟩; have HN := Lib.hid hn; clear hn; have HU := Lib.hid hu; clear hu)
          go_roundg (l.length - (j + 1))
          case measure => rw [HGK.out]; omega
          case rel => exact ⟨j + 1, _, G, rfl, by omega, by go_num, by rw [HST.out, HSP.out], by rw [HST.out, HSP.out]; exact HP.out.onNet HN.out HU.out⟩
      · have b0 : (kd == 0) = false := by simpa using e0
        by_cases e1 : kd = 1
        · subst e1
          clear e0 b0
          have hgl := HG.out
          have hql : sj.net.queues.length = houses := HI.out.len.trans hgl
          cases eh : okHouse houses hs with
          | false =>
            have hstep : sj.step fates ⟨1, hs, ⟨pa, pb, ps⟩⟩ = ⟨sj.net, sj.used, sj.sent, sj.got⟩ := by
              have e2 : sj.net.recv hs = (sj.net, [], 1) := by unfold Net.recv; rw [if_pos (by rw [hql]; exact eh)]
              simp [St.step, hgl, eh, e2]
            have HSP := Lib.hid hstep; clear hstep
            have HQL := Lib.hid hql; clear hql
            have HGL := Lib.hid hgl; clear hgl
            have hrec := recv_bad HP.out.net hs (by rw [HQL.out]; exact eh)
            have HREC := Lib.hid hrec; clear hrec eh
            go_wp2_with (go_at_call 16; refine HREC.out.mono ?_; rintro e w' ⟨v, blk, rfl, hrow, hnew, hn, hu⟩; have HRW := Lib.hid hrow; clear hrow; have HNW := Lib.hid hnew; clear hnew; have HN := Lib.hid hn; clear hn; have HU := Lib.hid hu; clear hu)
            go_roundg (l.length - (j + 1))
            case measure => rw [HGK.out]; omega
            case rel => exact ⟨j + 1, F, G, rfl, by omega, by go_num, by rw [HST.out, HSP.out], by rw [HST.out, HSP.out]; exact HP.out.onNetS HN.out HU.out⟩
          | true =>
            obtain ⟨h0, h1⟩ := okHouse_yes eh
            obtain ⟨h, rfl⟩ := Int.eq_ofNat_of_zero_le h0
            have hh : h < houses := by omega
            have hrec0 : (sj.net.recv h).2.2 = 0 := by unfold Net.recv; rw [if_neg (by rw [hql, eh]; decide)]
            have hstep : sj.step fates ⟨1, h, ⟨pa, pb, ps⟩⟩ = ⟨(sj.net.recv h).1, sj.used, sj.sent, sj.got.set h (sj.got.getD h [] ++ (sj.net.recv h).2.1)⟩ := by
              simp [St.step, hgl, eh, hrec0]
            have hrl := Net.recv_many sj.net HI.out.ok h
            have hglen := getD_le HI.out.got h
            have hrec := recv_net HP.out.net HI.out.ok h
            rw [hrec0] at hrec
            generalize hGH : sj.got.getD h [] = gh at hstep hglen
            have HGH := Lib.hid hGH; clear hGH
            generalize (sj.net.recv h).2.1 = rp at hstep hrec hrl
            generalize (sj.net.recv h).1 = N2 at hstep hrec
            have HSP := Lib.hid hstep; clear hstep hrec0
            have HQL := Lib.hid hql; clear hql
            have HREC := Lib.hid hrec; clear hrec eh
            go_wp2_with (go_at_call 16; refine HREC.out.mono ?_; rintro e w' ⟨v, blk, rfl, hrow, hnew, hn, hu⟩; obtain ⟨vA, vc, rfl, _, _⟩ := hrow.val; have HRW := Lib.hid hrow; clear hrow; have HNW := Lib.hid hnew; clear hnew; have HN := Lib.hid hn; clear hn; have HU := Lib.hid hu; clear hu; have k1' : w'.cell? ⟨lb, loff + j * 5 + 1, none⟩ = some (.int .i64 h) := (World.cell?_of_block (w := wr) (a := ⟨lb, loff + j * 5 + 1, none⟩) (HU.out.block lb hlbl HLF.out.1)).trans k1)
            have hpw := HP.out.onNetS HN.out HU.out
            obtain ⟨sv, sblk, vs, gblk, hb⟩ := hpw.book
            have hhg : h < sj.got.length := by rw [hgl]; exact hh
            have hrowg := hb.gotR h hhg
            rw [HGH.out] at hrowg
            obtain ⟨gA, gc, hgv, _, _⟩ := hrowg.val
            rw [hgv] at hrowg
            have kb1 := hb.c1
            rw [hgl] at kb1
            have kg := hb.cg h hhg
            rw [hgv] at kg
            obtain ⟨vA2, vc2, hvv, hsrc⟩ := HRW.out.src (one_flatP _)
            injection hvv with hvv1 _ hvv3
            subst hvv1 hvv3
            have hbl2 : gblk h ≠ some (w.heap.size + 1) := fun hc => hrowg.ne_type hb.row (by decide) hc
            have hbl3 : gblk h ≠ some (w.heap.size + 1 + 1) := fun hc => hrowg.ne_type hb.head (by decide) hc
            have hbl4 : gblk h ≠ some lb := fun hc => HLF.out.2 (hb.inL h lb hhg hc)
            obtain ⟨i1, hi1, hy0, hy1, hy2⟩ := info_parts info31
            obtain ⟨v2, w2, blk2, hrun, hrow2, hu2, hb2⟩ := run_append_row (P := Try.prog) w'.drew 36 36 31 i1 _ 3 32 Try.underlying36 hi1 hy0 hy1 hy2 rfl (.slice gA gh.length gc) gh.length _ (gblk h) hrowg vA rp.length vc _ hsrc (by unfold maxLen; omega) (by omega)
            obtain ⟨A2, c2, rfl, _, _⟩ := hrow2.val
            have kb1' : w2.cell? ⟨w.heap.size + 1 + 1, 1, none⟩ = some (.slice (some ⟨w.heap.size + 1, 0, none⟩) houses houses) := (World.cell?_of_block (w := w') (a := ⟨w.heap.size + 1 + 1, 1, none⟩) (hu2.block _ (lt_of_heap hb.head) hbl3)).trans kb1
            have kg' : w2.cell? ⟨w.heap.size + 1, h, none⟩ = some (.slice gA gh.length gc) := (World.cell?_of_block (w := w') (a := ⟨w.heap.size + 1, h, none⟩) (hu2.block _ (lt_of_heap hb.row) hbl2)).trans kg
            have zg' : w2.frozen? ⟨w.heap.size + 1, h, none⟩ = false := (World.frozen?_of_block (w := w') (a := ⟨w.heap.size + 1, h, none⟩) (hu2.block _ (lt_of_heap hb.row) hbl2)).trans (hb.fg h)
            have k1'' : w2.cell? ⟨lb, loff + j * 5 + 1, none⟩ = some (.int .i64 h) := (World.cell?_of_block (w := w') (a := ⟨lb, loff + j * 5 + 1, none⟩) (hu2.block _ (Nat.lt_of_lt_of_le hlbl HU.out.size) hbl4)).trans k1'
            have HPW := Lib.hid hpw; clear hpw
            have HB := Lib.hid hb; clear hb
            have HGV := Lib.hid hgv; clear hgv
            have HRG := Lib.hid hrowg; clear hrowg
            have HSRC := Lib.hid hsrc; clear hsrc
            have HRUN := Lib.hid hrun; clear hrun
            have HROW2 := Lib.hid hrow2; clear hrow2
            have HU2 := Lib.hid hu2; clear hu2
            have HB2 := Lib.hid hb2; clear hb2
            have HGL := Lib.hid hgl; clear hgl
            have q0 : (0 : Int) ≤ (h : Int) := by omega
            have q1 : (h : Int) < (houses : Int) := by omega
            have q2 : (0 : Int) ≤ (j : Int) := by omega
            have q3 : (j : Int) < (l.length : Int) := by omega
            clear hbl2 hbl3 hbl4 k0 k1 k2 k3 k4
            clear hmk
            have hset := HB.out.setGot h hhg (.slice A2 (gh.length + rp.length) c2) (gh ++ rp) blk2 (n' := gh.length + rp.length) (by simp) (by rw [flatP_append]; exact HROW2.out) HB2.out (((Upd.refl _ w').drew).trans HU2.out (fun _ _ h => h))
            have HSET := Lib.hid hset; clear hset
            apply Code.wp_mono (Q := EndsAt _ (w2.setCell ⟨w.heap.size + 1, h, none⟩ (.slice A2 (gh.length + rp.length) c2)))
            case h =>
              go_region_law ((refine step_append_run (o := ⟨some 121, _, _, _, _, _⟩) (by rfl) (.tmp 119) (.tmp 120) 36 36 (by rfl) (.slice gA gh.length gc) (.slice vA rp.length vc) (by simp [Act.eval]) (by simp [Act.eval]) HRUN.out ?_))
              all_goals exact ⟨rfl, rfl⟩
            case hq =>
             intro e a' wx he
             obtain ⟨rfl, rfl, rfl⟩ := EndsAt.out he
             go_wp2_with fail
             go_roundg (l.length - (j + 1))
             case measure => rw [HGK.out]; omega
             case rel => exact ⟨j + 1, _, _, rfl, by omega, by go_num, by rw [HST.out, HSP.out], by rw [HST.out, HSP.out]; exact HPW.out.onBook HSET.out.1 HSET.out.2⟩
        · have b1 : (kd == 1) = false := by simpa using e1
          have hstep : sj.step fates ⟨kd, hs, ⟨pa, pb, ps⟩⟩ = ⟨sj.net.step, sj.used, sj.sent, sj.got⟩ := by simp [St.step, e0, e1]
          have HSP := Lib.hid hstep; clear hstep e0 e1
          go_wp2_with (go_at_call 19; refine (step_net HP.out.net (by have := HI.out.time; omega)).mono ?_; rintro e w' ⟨rfl, hn, hu⟩; have HN := Lib.hid hn; clear hn; have HU := Lib.hid hu; clear hu)
          go_roundg (l.length - (j + 1))
          case measure => rw [HGK.out]; omega
          case rel => exact ⟨j + 1, _, G, rfl, by omega, by go_num, by rw [HST.out, HSP.out], by rw [HST.out, HSP.out]; exact HP.out.onNet HN.out HU.out⟩
    · obtain rfl : l.length = j := by omega
      have HP := Lib.hid hp; clear hp
      have HI := Lib.hid hinv; clear hinv
      have HG := Lib.hid hgl; clear hgl
      rw [pst_end] at HP HI HG
      obtain ⟨sv, sblk, vs, gblk, hb⟩ := HP.out.book
      obtain ⟨sA, sc, rfl, _, _⟩ := hb.sentR.val
      have k0 := hb.c0
      have k1 := hb.c1
      have r0 : wr.cell? ⟨w.heap.size, 0, none⟩ = some (.slice none 0 0) := by simp [World.cell?, HP.out.res]
      have r1 : wr.cell? ⟨w.heap.size, 1, none⟩ = some (.slice none 0 0) := by simp [World.cell?, HP.out.res]
      have z0 : wr.frozen? ⟨w.heap.size, 0, none⟩ = false := by simp [World.frozen?, HP.out.res]
      have z1 : wr.frozen? ⟨w.heap.size, 1, none⟩ = false := by simp [World.frozen?, HP.out.res]
      have HB := Lib.hid hb; clear hb
      go_wp2
      refine bodyPost_ret (v := .agg #[.slice sA ((St.start N houses).run fates l).sent.length sc, .slice (some ⟨w.heap.size + 1, 0, none⟩) ((St.start N houses).run fates l).got.length ((St.start N houses).run fates l).got.length]) (by simp [results, Try.results25, go_sem, r0, r1]) rfl ?_
      exact ⟨_, _, _, F, G, rfl, play_out HP.out HB.out⟩
end Go.Proofs.Ytfpiiehdmdmoeaa
