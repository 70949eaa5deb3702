/-
  CvN
-/
import Derived.Test.YtahhdjeclbagnaaGreatDoorQ44
import Derived.Test.YtahhdjeclbagnaaGreatDoorQ19
namespace Go.Proofs.YtahhdjeclbagnaaGreatDoor
open Go.RowKit Go.Shelf
theorem joinRes_fine {C : KCon} {fs : List KFile} {ho : Int} {F : List KFact} {O : List KBef} (h : JoinRes C fs ho F O 0) : AllOk C fs ∧ Fine (factsOf fs) (ordersOf fs) F O ∧ ∃ f0, fs[0]? = some f0 ∧ ho = f0.house := by
 rcases h with ⟨h, _⟩ | ⟨ha, f0, h0, ⟨_, h1, hf⟩ | ⟨h, _⟩⟩
 · cases h
 · exact ⟨ha, hf, f0, h0, h1⟩
 · cases h
theorem pairs_of {F T : List KFact} {g : Int → Int} (hr : T.map (·.ref) = F.map (·.ref)) (hT : ∀ t ∈ T, t.act = g t.ref) (hF : ∀ t ∈ F, t.act = g t.ref) : T.map (fun x => (x.ref, x.act)) = F.map (fun x => (x.ref, x.act)) := by
 have e : ∀ {L : List KFact}, (∀ t ∈ L, t.act = g t.ref) → L.map (fun x => (x.ref, x.act)) = (L.map (·.ref)).map (fun r => (r, g r)) := fun {L} h => by
  rw [List.map_map]
  exact List.map_congr_left (fun x hx => by simp [h x hx])
 rw [e hT, e hF, hr]
theorem narrows_pairs {L A T TA : List KFact} {O OA OO OAA : List KBef} (h : Fine L O T OO) (h1 : Fine A OA TA OAA) (hd : Distinct A) (hA : ∀ x ∈ A, x ∈ L) (hin : ∀ x ∈ L, ∃ y ∈ A, y.ref = x.ref) : T.map (fun x => (x.ref, x.act)) = TA.map (fun x => (x.ref, x.act)) := by
 have ht := h1.tight
 rw [joinedF_self hd] at ht
 rw [tight_refs h.tight, tight_refs ht]
 refine pairs_of (g := actOf A) ?_ (fun z hz => ?_) (fun x hx => (actOf_mem hd.noTwice hx).symm)
 · rw [joinedF_refs]
   exact (keys_unique (L := L) hd (fun r => by
    rw [List.mem_map]
    constructor
    · rintro ⟨x, hx, rfl⟩; exact ⟨x, hA x hx, rfl⟩
    · rintro ⟨x, hx, rfl⟩; obtain ⟨y, hy, e⟩ := hin x hx; exact ⟨y, hy, e⟩)).symm
 · obtain ⟨x, hx, e, ea⟩ := (joinedF_mem hz).act
   obtain ⟨y, hy, e2⟩ := hin x hx
   have e3 := h.same x hx y (hA y hy) e2.symm
   rw [← ea, e3, ← e, ← e2]
   exact (actOf_mem hd.noTwice hy).symm
theorem narrows_plain {C : KCon} {fs : List KFile} {f0 : KFile} (h0 : fs[0]? = some f0) (hin : ∀ f ∈ fs, ∀ x ∈ f.facts, ∃ y ∈ f0.facts, y.ref = x.ref) {ho : Int} {T : List KFact} {OO : List KBef} (hj : JoinRes C fs ho T OO 0) {u : Int} {L1 L2 : List (List Int)} {g h : Int} (hs : ComplIs C ⟨ho, T, OO⟩ u L1 g) (ha : ComplIs C f0 u L2 h) :
 h ≠ 23 ∧ (g = 0 → h = 0 → (∀ x ∈ L1, x ∈ L2) ∧ 0 < L1.length) := by
 obtain ⟨hall, hf, _⟩ := joinRes_fine hj
 have hm0 := List.mem_of_getElem? h0
 have hok0 := hall.2 f0 hm0
 have hA : ∀ x ∈ f0.facts, x ∈ factsOf fs := fun x hx => List.mem_flatMap.2 ⟨f0, hm0, hx⟩
 have hO : ∀ b ∈ f0.orders, b ∈ ordersOf fs := fun x hx => List.mem_flatMap.2 ⟨f0, hm0, hx⟩
 have hk0 := okFile_known1 hok0
 refine ⟨?_, ?_⟩
 · rintro rfl
   rcases ha with ⟨h, _⟩ | ⟨_, _, _, ⟨_, _, h⟩ | ⟨_, _, _, _, _, ⟨h, _⟩ | ⟨h, _⟩⟩⟩
   · cases h
   · exact h.more hf hA hO hk0
   · cases h
   · cases h
 · rintro rfl rfl
   obtain ⟨hok1, hu0, hu1, T', OO', hf', hm1⟩ := hs.mem
   obtain ⟨_, _, _, TA, OAA, hfA, hm2⟩ := ha.mem
   obtain ⟨rfl, rfl⟩ := hf'.unique hf.again (okFile_known1 hok1)
   have hd0 := okFactsL_distinct (okFile_facts hok0)
   have hp := narrows_pairs hf hfA hd0 hA (fun x hx => by
    obtain ⟨f, hfm, hxf⟩ := List.mem_flatMap.1 hx
    exact hin f hfm x hxf)
   have hr := pair_refs hp
   refine ⟨fun x hx => ?_, ?_⟩
   · obtain ⟨day, hday, rfl⟩ := (hm1 x).1 hx
     rw [hm2]
     refine ⟨day, hday.narrow hfA hf hA hO hk0, ?_⟩
     have e : ∀ L : List KFact, daysOf L day = (L.map (·.ref)).map day := fun L => by unfold daysOf; rw [List.map_map]; rfl
     refine traceM_congr hp (by rw [e, e, hr]) (fun d _ i => by rw [e, e, hr])
   · obtain ⟨day, hday⟩ := Day.some u hf.tight (joinedF_distinct _) ((okFile_known hall.2).known hf.ord) hf.le
     exact List.length_pos_of_mem ((hm1 _).2 ⟨day, hday, rfl⟩)
def complSpec (C : KCon) (f : KFile) (u : Int) : MSpec :=
 ⟨fun v => ∃ (A : Option Addr) (n c : Nat) (er : Int), v = .tuple #[.slice A n c, .int .i64 er],
  fun v z => ∃ (L : List (List Int)) (er : Int) (A : Option Addr) (c : Nat), v = .tuple #[.slice A L.length c, .int .i64 er] ∧ NumsAt z ⟨A, c⟩ L ∧ ComplIs C f u L er⟩
theorem complSpec_keeps (C : KCon) (f : KFile) (u : Int) : (complSpec C f u).Keeps := fun _ _ _ h hb => by
 obtain ⟨L, er, A, c, h1, h2, h3⟩ := h
 exact ⟨L, er, A, c, h1, h2.below hb, h3⟩
attribute [local go_sem] stillB stillUpon makesUpon
set_option maxRecDepth 100000 in
set_option maxHeartbeats 4000000 in
theorem narrows_walk (v : CV) (C : KCon) (sv : SV) (fs : List KFile) (u : Int) (w : World) (hC : ConAt w v C) (hF : FilesAt w sv fs) (hR : ∀ f ∈ fs, ∀ x ∈ f.facts, In64 x.ref) (hT : Tab w) :
 Calls Tryz.prog 5 #[v.val C, .slice sv.A fs.length sv.c, .int .i64 u] w (RetB (.bool true) w) := by
 obtain ⟨⟨hA, hc⟩, ⟨uA, uc⟩, ⟨aA, ac⟩, ⟨kA, kc⟩, ⟨oA, oc⟩⟩ := v
 obtain ⟨sA, sc⟩ := sv
 have HC := Lib.hid hC; clear hC
 have HF := Lib.hid hF; clear hF
 have HT := Lib.hid hT; clear hT
 have HR := Lib.hid hR; clear hR
 simp only [CV.val, CV.cells]
 go_enter Tryz.func5, Tryz.ntmps5
 go_upto_region 1 with (fail)
 generalize hW0 : World.alloc _ _ = W0
 obtain ⟨HB0, h0⟩ := bx1 hW0
 have HX0 : Hid (CoAt W0 w.heap.size ⟨⟨hA, hc⟩, ⟨uA, uc⟩, ⟨aA, ac⟩, ⟨kA, kc⟩, ⟨oA, oc⟩⟩ C) := ⟨HC.out.below HB0.out, ⟨[], by rw [List.append_nil]; exact h0⟩⟩
 clear hW0 h0 HC
 have HH := Lib.hid (head_any W0 (HT.out.below HB0.out))
 go_wp2_with (go_at_call 9; refine HH.out.mono ?_; rintro _ W1 ⟨rfl, hb⟩; refine Hid.out ?_)
 refine Lib.hid ?_
 have HX1 := Lib.hid (HX0.out.below hb)
 have HB1 : Hid (Below w.heap.size w W1) := Below.step HB0.out hb
 clear hb HX0 HB0 HH
 obtain ⟨c0, c1, c2, c3, c4, c5, c6⟩ := HX1.out.cells
 simp only at c0 c1 c2 c3 c4 c5 c6
 have hs := lsmall_any ⟨⟨hA, hc⟩, ⟨uA, uc⟩, ⟨aA, ac⟩, ⟨kA, kc⟩, ⟨oA, oc⟩⟩ C fs ⟨sA, sc⟩ W1 HX1.out.con (HF.out.below HB1.out)
 simp only [CV.val, CV.cells] at hs
 have HS := Lib.hid hs; clear hs
 have hfl : fs.length ≤ 9223372036854775807 := by have := HF.out.len; omega
 go_wp2_with (go_at_call 10; refine HS.out.mono ?_; rintro _ W2 ⟨x, rfl, hs, hb⟩; refine Hid.out ?_)
 refine Lib.hid ?_
 have HX2 := Lib.hid (HX1.out.below hb)
 have HB2 : Hid (Below w.heap.size w W2) := Below.step HB1.out hb
 have HSM := Lib.hid hs
 clear hb hs HX1 HB1 HS c0 c1 c2 c3 c4 c5 c6
 cases x with
 | false =>
  go_wp2
  go_ret
  exact ⟨rfl, HB2.out⟩
 | true =>
  by_cases hnil : fs.length = 0
  · have q0 : ((fs.length : Int) == 0) = true := by simp [hnil]
    clear hnil
    go_wp2
    go_ret
    exact ⟨rfl, HB2.out⟩
  · have q0 : ((fs.length : Int) == 0) = false := by rw [beq_eq_false_iff_ne]; omega
    have hpos : 0 < fs.length := by omega
    clear hnil
    have hsl := smallF_len (HSM.out (by simp))
    have hl5 := hsl.1
    have hsf := small_facts hsl.2 (by omega)
    have HFE := Lib.hid hsl.2
    have HRA : Hid (∀ x ∈ factsOf fs, In64 x.ref) := fun x hx => by
     obtain ⟨f, hf, hxf⟩ := List.mem_flatMap.1 hx
     exact HR.out f hf x hxf
    have HSF := Lib.hid hsf
    obtain ⟨f0, hf0⟩ : ∃ x, fs[0]? = some x := ⟨fs[0], List.getElem?_eq_getElem hpos⟩
    have HF0 := Lib.hid hf0
    clear hsf hsl HSM hf0
    go_wp2
    clear q0
    go_loopg [8] (fs.length - 1) (fun gk v8 wr => ∃ (i : Nat) (z : Bl W2), gk = fs.length - i ∧ 1 ≤ i ∧ i ≤ fs.length ∧ v8 = .int .i64 i ∧ wr = z.val ∧ Hid (∀ f ∈ fs.take i, ∀ x ∈ f.facts, ∃ y ∈ f0.facts, y.ref = x.ref))
    case atStart => exact ⟨1, ⟨W2, Below.refl _ _⟩, rfl, Nat.le_refl _, by omega, rfl, rfl, fun f hf x hx => by
     rw [List.take_add_one, HF0.out] at hf
     simp at hf
     exact ⟨x, by rw [← hf]; exact hx, rfl⟩⟩
    case round =>
     obtain ⟨i, z, hgk, hi1, hi, rfl, rfl, HIN⟩ := hrel
     have HGK := Lib.hid hgk; clear hgk
     by_cases hlt : i < fs.length
     · have i0 : (i : Int) < (fs.length : Int) := by omega
       obtain ⟨f, hf⟩ : ∃ x, fs[i]? = some x := ⟨fs[i], List.getElem?_eq_getElem hlt⟩
       have HFI := Lib.hid hf; clear hf
       obtain ⟨fb, fo, hA0, hfb, hfile⟩ := HF.out.form hpos
       simp only at hA0
       subst hA0
       obtain ⟨⟨⟨gA, gc⟩, ⟨qA, qc⟩⟩, hfa, hcell⟩ := hfile i _ HFI.out
       obtain ⟨⟨⟨gA', gc'⟩, ⟨qA', qc'⟩⟩, hfa', hcell'⟩ := hfile 0 _ HF0.out
       have HFA := Lib.hid hfa
       have HFA' := Lib.hid hfa'
       have HCE : Hid (∀ y : Bl W2, y.val.cell? ⟨fb, fo + i * 3 + 1, none⟩ = some (.slice gA f.facts.length gc)) := fun y => hcell y.val (Below.step HB2.out y.prop) 1 (by omega)
       have HCE' : Hid (∀ y : Bl W2, y.val.cell? ⟨fb, fo + 1, none⟩ = some (.slice gA' f0.facts.length gc')) := fun y => by
        have h := hcell' y.val (Below.step HB2.out y.prop) 1 (by omega)
        rw [Nat.zero_mul, Nat.add_zero] at h
        exact h
       have hfln := atLen hfa.facts
       clear hfa hfa' hcell hcell' hfile
       go_wp2
       go_loopg [9] f.facts.length (fun gk v9 wr => ∃ (k : Nat) (z : Bl W2), gk = f.facts.length - k ∧ k ≤ f.facts.length ∧ v9 = .int .i64 k ∧ wr = z.val ∧ Hid (∀ x ∈ f.facts.take k, ∃ y ∈ f0.facts, y.ref = x.ref))
       case atStart => exact ⟨0, z, rfl, Nat.zero_le _, rfl, rfl, fun x hx => by simp at hx⟩
       case round =>
        obtain ⟨k, z, hgk2, hk, rfl, rfl, HKN⟩ := hrel
        have HGJ := Lib.hid hgk2; clear hgk2
        have e1 := HCE.out z
        by_cases hlk : k < f.facts.length
        · have k0 : (k : Int) < (f.facts.length : Int) := by omega
          obtain ⟨x, hx⟩ : ∃ x, f.facts[k]? = some x := ⟨f.facts[k], List.getElem?_eq_getElem hlk⟩
          obtain ⟨xb, xo, hA1, hxb, hxc⟩ := HFA.out.facts.fact (by omega)
          subst hA1
          have x0 : ∀ y : Bl z.val, y.val.cell? ⟨xb, xo + k * 6, none⟩ = some (.int .i64 x.ref) := fun y => hxc k x hx y.val (Below.step (Below.step HB2.out z.prop) y.prop) 0 (by omega)
          have x1 : ∀ y : Bl z.val, y.val.cell? ⟨fb, fo + i * 3 + 1, none⟩ = some (.slice (some ⟨xb, xo, none⟩) f.facts.length gc) := fun y => HCE.out ⟨y.val, Below.step z.prop y.prop⟩
          have x2 : ∀ y : Bl z.val, y.val.cell? ⟨fb, fo + 1, none⟩ = some (.slice gA' f0.facts.length gc') := fun y => HCE'.out ⟨y.val, Below.step z.prop y.prop⟩
          have HFN := Lib.hid (fun y : Bl z.val => find_lit f0.facts x.ref ⟨gA', gc'⟩ y.val (HFA'.out.facts.below (by omega) (Below.step (Below.step HB2.out z.prop) y.prop)))
          have HXX := Lib.hid hx
          obtain ⟨p, hp⟩ : ∃ p, findX f0.facts x.ref = p := ⟨_, rfl⟩
          rw [hp] at HFN
          have HPF : Hid (0 ≤ p → ∃ y ∈ f0.facts, y.ref = x.ref) := fun h => by
           rw [← hp] at h
           obtain ⟨y, hy, e⟩ := findX_get h
           exact ⟨y, List.mem_of_getElem? hy, e⟩
          clear hx hxc hp
          go_upto_region 10 with (fail)
          change Code.wp _ _ _ _ (Bl.val (⟨z.val, Below.refl _ _⟩ : Bl z.val))
          generalize (⟨z.val, Below.refl _ _⟩ : Bl z.val) = za
          refine wp_region_bl (by kernel_rfl) (by kernel_rfl) ?_
          repeat (go_big_quiet_step ((go_at_call 19; exact Calls.bl_of (HFN.out _))))
          refine wpQuiet_nil ?_
          rintro _ ⟨zb, rfl⟩
          have HZB : Hid (Below W2.heap.size W2 zb.val) := Below.step z.prop zb.prop
          clear x0 x1 x2 e1 HFN
          by_cases hp0 : p < 0
          · have HBE : Hid (Below w.heap.size w zb.val) := Below.step HB2.out HZB.out
            go_wp2
            go_ret
            exact ⟨rfl, HBE.out⟩
          · have HKN2 : Hid (∀ x ∈ f.facts.take (k + 1), ∃ y ∈ f0.facts, y.ref = x.ref) := fun y hy => by
             rw [List.take_add_one, HXX.out] at hy
             rcases List.mem_append.1 hy with h | h
             · exact HKN.out y h
             · simp at h; rw [h]; exact HPF.out (by omega)
            go_wp2
            go_roundg (f.facts.length - (k + 1))
            case measure => rw [HGJ.out]; omega
            case rel => exact ⟨k + 1, ⟨zb.val, HZB.out⟩, rfl, by omega, by go_num, rfl, HKN2⟩
        · have HIN2 : Hid (∀ g ∈ fs.take (i + 1), ∀ x ∈ g.facts, ∃ y ∈ f0.facts, y.ref = x.ref) := fun g hg x hx => by
           rw [List.take_add_one, HFI.out] at hg
           rcases List.mem_append.1 hg with h | h
           · exact HIN.out g h x hx
           · simp at h
             rw [h] at hx
             refine HKN.out x ?_
             rw [List.take_of_length_le (by omega)]
             exact hx
          go_wp2
          go_roundg (fs.length - (i + 1))
          case measure => rw [HGK.out]; omega
          case rel => exact ⟨i + 1, z, rfl, by omega, by omega, by go_num, rfl, HIN2⟩
     · obtain rfl : i = fs.length := by omega
       have HINA : Hid (∀ f ∈ fs, ∀ x ∈ f.facts, ∃ y ∈ f0.facts, y.ref = x.ref) := by
        have h := HIN.out
        rw [List.take_length] at h
        exact h
       have HX3 := Lib.hid (HX2.out.below z.prop)
       have HB3 : Hid (Below w.heap.size w z.val) := Below.step HB2.out z.prop
       generalize z.val = W3 at HX3 HB3 ⊢
       clear HIN HGK hlt hi hi1 HX2 HB2 z
       obtain ⟨c0, c1, c2, c3, c4, c5, c6⟩ := HX3.out.cells
       simp only at c0 c1 c2 c3 c4 c5 c6
       have hj := join_any ⟨⟨hA, hc⟩, ⟨uA, uc⟩, ⟨aA, ac⟩, ⟨kA, kc⟩, ⟨oA, oc⟩⟩ C ⟨sA, sc⟩ fs W3 HX3.out.con (HF.out.below HB3.out) (by omega) HRA.out HSF.out.1 HSF.out.2
       simp only [CV.val, CV.cells] at hj
       have HJ := Lib.hid hj
       clear hj
       go_wp2_with (go_at_call 11; refine HJ.out.mono ?_; rintro _ W4 ⟨ho4, F4, O4, er4, A4, d4, B4, b4, rfl, hf4, _, hb, hj4⟩; refine Hid.out ?_)
       refine Lib.hid ?_
       have HX4 := Lib.hid (HX3.out.below hb)
       have HB4 : Hid (Below w.heap.size w W4) := Below.step HB3.out hb
       have HJ4 := Lib.hid hj4
       have HF4 := Lib.hid hf4
       clear hb hj4 hf4 HJ HX3 HB3 c0 c1 c2 c3 c4 c5 c6
       go_upto_region 13 with (fail)
       generalize hW5 : World.alloc _ _ = W5
       obtain ⟨hb5, hh5⟩ := bx1' hW5
       have HX5 := Lib.hid (HX4.out.below hb5)
       have HY5 : Hid (FiAt W5 W4.heap.size ⟨⟨A4, d4⟩, ⟨B4, b4⟩⟩ ⟨ho4, F4, O4⟩) := ⟨HF4.out.below hb5, ⟨[], by rw [List.append_nil]; exact hh5⟩⟩
       have HB5 : Hid (Below w.heap.size w W5) := Below.step HB4.out hb5
       clear hW5 hb5 hh5 HX4 HF4 HB4
       generalize W4.heap.size = jb at HY5 ⊢
       obtain ⟨c0, c1, c2, c3, c4, c5, c6⟩ := HX5.out.cells
       obtain ⟨p0, p1, p2⟩ := HY5.out.cells
       simp only at c0 c1 c2 c3 c4 c5 c6 p0 p1 p2
       have hF4 : F4.length ≤ 400 := by
        rcases HJ4.out with ⟨_, _, rfl, _⟩ | ⟨_, g0, _, ⟨_, _, h⟩ | ⟨_, _, rfl, _⟩⟩
        · simp
        · have h1 := tight_len h.tight
          have h2 := joinedF_len (factsOf fs)
          have h3 := keysOf_len (factsOf fs)
          have h4 := sum_le (l := fs) (g := fun f => f.facts.length) (fun f hf => (HFE.out f hf).1)
          have h5 : (factsOf fs).length = (fs.map (fun f => f.facts.length)).sum := by unfold factsOf; rw [List.length_flatMap]
          omega
        · simp
       have hco := completions_any ⟨⟨hA, hc⟩, ⟨uA, uc⟩, ⟨aA, ac⟩, ⟨kA, kc⟩, ⟨oA, oc⟩⟩ C ⟨⟨A4, d4⟩, ⟨B4, b4⟩⟩ ⟨ho4, F4, O4⟩ u W5 HX5.out.con HY5.out.file hF4 (HT.out.below HB5.out)
       simp only [CV.val, CV.cells, FV.val, FV.cells] at hco
       have HCO := Lib.hid hco; clear hco
       go_wp2_with (go_at_call 16; refine HCO.out.mono ?_; rintro _ W6 ⟨L1, er1, A6, d6, rfl, hN, hb, hc1⟩; refine Hid.out ?_)
       refine Lib.hid ?_
       have HX6 := Lib.hid (HX5.out.below hb)
       have HB6 : Hid (Below w.heap.size w W6) := Below.step HB5.out hb
       have HN6 := Lib.hid hN
       have HC1 := Lib.hid hc1
       clear hb hN hc1 HX5 HY5 HB5 HCO c0 c1 c2 c3 c4 c5 c6 p0 p1 p2 hF4
       go_upto_region 14 with (fail)
       obtain ⟨fb, fo, hA0, hfb, hfile⟩ := HF.out.form hpos
       simp only at hA0
       subst hA0
       obtain ⟨⟨⟨gA, gc⟩, ⟨qA, qc⟩⟩, hfa, hcell⟩ := hfile 0 _ HF0.out
       have HFA := Lib.hid hfa
       have c0 : ∀ y : Bl W6, y.val.cell? ⟨w.heap.size, 0, none⟩ = some (.int .i64 C.parties) := fun y => (HX6.out.below y.prop).cbox.cell rfl
       have c1 : ∀ y : Bl W6, y.val.cell? ⟨w.heap.size, 1, none⟩ = some (.slice hA C.holders.length hc) := fun y => (HX6.out.below y.prop).cbox.cell rfl
       have c2 : ∀ y : Bl W6, y.val.cell? ⟨w.heap.size, 2, none⟩ = some (.slice uA C.units.length uc) := fun y => (HX6.out.below y.prop).cbox.cell rfl
       have c3 : ∀ y : Bl W6, y.val.cell? ⟨w.heap.size, 3, none⟩ = some (.slice aA C.acts.length ac) := fun y => (HX6.out.below y.prop).cbox.cell rfl
       have c4 : ∀ y : Bl W6, y.val.cell? ⟨w.heap.size, 4, none⟩ = some (.slice kA C.clauses.length kc) := fun y => (HX6.out.below y.prop).cbox.cell rfl
       have c5 : ∀ y : Bl W6, y.val.cell? ⟨w.heap.size, 5, none⟩ = some (.int .i64 C.days) := fun y => (HX6.out.below y.prop).cbox.cell rfl
       have c6 : ∀ y : Bl W6, y.val.cell? ⟨w.heap.size, 6, none⟩ = some (.slice oA C.off.length oc) := fun y => (HX6.out.below y.prop).cbox.cell rfl
       have e0 : ∀ y : Bl W6, y.val.cell? ⟨fb, fo, none⟩ = some (.int .i64 f0.house) := fun y => by have h := hcell y.val (Below.step HB6.out y.prop) 0 (by omega); rw [Nat.zero_mul] at h; exact h
       have e1 : ∀ y : Bl W6, y.val.cell? ⟨fb, fo + 1, none⟩ = some (.slice gA f0.facts.length gc) := fun y => by have h := hcell y.val (Below.step HB6.out y.prop) 1 (by omega); rw [Nat.zero_mul] at h; exact h
       have e2 : ∀ y : Bl W6, y.val.cell? ⟨fb, fo + 2, none⟩ = some (.slice qA f0.orders.length qc) := fun y => by have h := hcell y.val (Below.step HB6.out y.prop) 2 (by omega); rw [Nat.zero_mul] at h; exact h
       have hf14 := (HFE.out f0 (List.mem_of_getElem? HF0.out)).1
       clear hfa hcell hfile
       refine wp_region_deps (s := (⟨W6, Below.refl _ _⟩ : Bl W6)) 9 (fun i => match i with
        | 5 => some (complSpec C f0 u)
        | _ => none) (fun _ => []) [] [8] (by simp) (by kernel_rfl) (by kernel_rfl) (by simp) ?panics (by kernel_rfl) ?bnd ?keeps ?_
       case panics =>
        intro e _ o v c a w _ h
        revert h
        cases o.dst <;> exact id
       case bnd =>
        intro p hp
        cases hp
       case keeps =>
        intro i sp h
        split at h
        · injection h with h; subst h; exact complSpec_keeps _ _ _
        · cases h
       simp only [List.take_succ_cons, List.take_zero, List.drop_succ_cons, List.drop_zero]
       repeat (refine wpE_still rfl (fun K hK => ?_); go_simp; refine hK _ ?_; clear hK K)
       refine wpE_make _ rfl rfl ?_ (fun y hpre => ?_) ?_
       · exact ⟨_, none, 0, 0, 0, rfl⟩
       · go_simp
         have h := completions_any ⟨⟨hA, hc⟩, ⟨uA, uc⟩, ⟨aA, ac⟩, ⟨kA, kc⟩, ⟨oA, oc⟩⟩ C ⟨⟨gA, gc⟩, ⟨qA, qc⟩⟩ f0 u y.val (HX6.out.below y.prop).con (HFA.out.below (Below.step HB6.out y.prop)) (by omega) (HT.out.below (Below.step HB6.out y.prop))
         simp only [CV.val, CV.cells, FV.val, FV.cells] at h
         refine h.mono ?_
         rintro e w' ⟨L, er, A, c, rfl, hN, hb, hc⟩
         exact ⟨_, rfl, ⟨A, L.length, c, er, rfl⟩, ⟨L, er, A, c, rfl, hN, hc⟩, hb⟩
       rintro _ ⟨rA, rn, rc, er2, rfl⟩
       repeat (refine wpE_still rfl (fun K hK => ?_); go_simp; refine hK _ ?_; clear hK K)
       refine wpE_nil ?_
       rintro y ⟨_, L2, er3, A3, c3', he3, hN2, hc2⟩
       simp only [Value.tuple.injEq, List.cons.injEq, Array.mk.injEq, Value.int.injEq, Value.slice.injEq, true_and, and_true] at he3
       obtain ⟨⟨rfl, rfl, rfl⟩, rfl⟩ := he3
       have HM7 := Lib.hid hN2
       have HC2 := Lib.hid hc2
       have HB7 : Hid (Below w.heap.size w y.val) := Below.step HB6.out y.prop
       have HN7 := Lib.hid (HN6.out.below y.prop)
       generalize y.val = W7 at HM7 HB7 HN7 ⊢
       clear hN2 hc2 c0 c1 c2 c3 c4 c5 c6 e0 e1 e2 HFA HX6 HN6 HB6
       gi_wp2
       have n1 := HC1.out.count
       by_cases h4 : er4 = 0
       · subst h4
         have HPL := Lib.hid (narrows_plain HF0.out HINA.out HJ4.out HC1.out HC2.out)
         have q23 : (er2 != 23) = true := by
          have := HPL.out.1
          simpa using this
         by_cases h1 : er1 = 0
         · subst h1
           by_cases h2 : er2 = 0
           · subst h2
             have hpl := HPL.out.2 rfl rfl
             have HIN := Lib.hid hpl.1
             have hlp : 0 < L1.length := hpl.2
             have hlp2 : (0 : Int) < (L1.length : Int) := by omega
             clear q23 hpl HPL HC1 HC2 HJ4
             go_wp2
             go_loopw [16] (fun v16 wr => ∃ k : Nat, k ≤ L1.length ∧ v16 = .int .i64 k ∧ Hid (Below W7.heap.size W7 wr)) (fun v16 _ => L1.length - (intOf v16).toNat)
             case atStart => exact ⟨0, Nat.zero_le _, rfl, Below.refl _ _⟩
             case round =>
              obtain ⟨k, hk, rfl, HBQ⟩ := hrel
              by_cases hlt : k < L1.length
              · obtain ⟨y, hy⟩ : ∃ y, L1[k]? = some y := ⟨_, List.getElem?_eq_getElem hlt⟩
                obtain ⟨g1, o1, e1, hg1, hc1⟩ := HN7.out.form (by omega)
                simp only at e1
                subst e1
                obtain ⟨s, hs, hcs⟩ := hc1 k y hy
                have x0 := hcs wr HBQ.out
                have k1 : (k : Int) < (L1.length : Int) := by omega
                have hin := in_any L2 y ⟨rA, rc⟩ s wr (HM7.out.below HBQ.out) (hs.below (by omega) HBQ.out)
                rw [decide_eq_true (HIN.out y (List.mem_of_getElem? hy))] at hin
                simp only at hin
                have HI := Lib.hid hin
                clear hin hc1 hs hcs hy
                go_wp2_with (go_at_call 17; refine HI.out.mono ?_; rintro _ W8 ⟨rfl, hb⟩; refine Hid.out ?_)
                refine Lib.hid ?_
                have HB8 := Lib.hid (Below.step HBQ.out hb)
                clear hb HI x0
                go_wp2
                go_roundw
                case rel => exact ⟨k + 1, by omega, by go_num, HB8⟩
                case measure => simp [intOf]; omega
              · have HBE : Hid (Below w.heap.size w wr) := Below.step HB7.out HBQ.out
                go_wp2
                go_ret
                exact ⟨rfl, HBE.out⟩
           · have q2 : (er2 != 0) = true := by simp [h2]
             clear h2 HPL
             go_wp2
             go_ret
             exact ⟨rfl, HB7.out⟩
         · have q1 : (er1 != 0) = true := by simp [h1]
           clear h1 HPL
           go_wp2
           go_ret
           exact ⟨rfl, HB7.out⟩
       · have q4 : (er4 != 0) = true := by simp [h4]
         clear h4
         go_wp2
         go_ret
         exact ⟨rfl, HB7.out⟩
end Go.Proofs.YtahhdjeclbagnaaGreatDoor
