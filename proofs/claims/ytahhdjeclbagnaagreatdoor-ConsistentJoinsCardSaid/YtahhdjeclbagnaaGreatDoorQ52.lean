/-
  CuR; CuS
-/
import Derived.Test.YtahhdjeclbagnaaGreatDoorQ44
import Derived.Test.YtahhdjeclbagnaaGreatDoorQ21
namespace Go.Proofs.YtahhdjeclbagnaaGreatDoor
open Go.RowKit Go.Shelf
theorem okFactsL_of {C : KCon} : ∀ {T : List KFact} {prev : Int}, Distinct T → (∀ t ∈ T, okFactK C t = true) → (∀ t ∈ T, prev < t.ref) → okFactsL C prev T = true
 | [], _, _, _, _ => rfl
 | x :: l, prev, hd, hk, hp => by
  unfold Distinct at hd
  rw [List.map_cons, List.pairwise_cons] at hd
  simp only [okFactsL, Bool.and_eq_true, decide_eq_true_eq]
  exact ⟨hk x (by simp), hp x (by simp), okFactsL_of hd.2 (fun t ht => hk t (List.mem_cons_of_mem _ ht)) (fun t ht => hd.1 _ (List.mem_map_of_mem ht))⟩
theorem okOrdL_of {F : List KFact} : ∀ {O : List KBef} {p : Option KBef}, O.Pairwise ltB → (∀ b ∈ O, hasRef F b.ref = true ∧ hasRef F b.next = true ∧ b.ref ≠ b.next) → (∀ a, p = some a → ∀ b ∈ O, ltB a b) → okOrdL F p O = true
 | [], _, _, _, _ => rfl
 | b :: l, p, hs, hk, hp => by
  rw [List.pairwise_cons] at hs
  have h1 := hk b (by simp)
  have h2 : ordPre p b = true := by
   cases p with
   | none => rfl
   | some a => exact decide_eq_true (hp a rfl b (by simp))
  have h3 := okOrdL_of (F := F) (p := some b) hs.2 (fun c hc => hk c (List.mem_cons_of_mem _ hc)) (fun a ha c hc => by injection ha with ha; rw [← ha]; exact hs.1 c hc)
  simp only [okOrdL, Bool.and_eq_true, Bool.not_eq_true', beq_eq_false_iff_ne, ne_eq]
  exact ⟨h1.1, h1.2.1, h1.2.2, h2, h3⟩
theorem mem_facts {fs : List KFile} {x : KFact} : x ∈ factsOf fs ↔ ∃ f ∈ fs, x ∈ f.facts := List.mem_flatMap
theorem mem_orders {fs : List KFile} {b : KBef} : b ∈ ordersOf fs ↔ ∃ f ∈ fs, b ∈ f.orders := List.mem_flatMap
theorem okFile_join {C : KCon} {fs : List KFile} {f0 : KFile} {T : List KFact} {OO : List KBef} (ha : AllOk C fs) (h0 : fs[0]? = some f0) (hf : Fine (factsOf fs) (ordersOf fs) T OO) (hl : T.length ≤ 4000) (hol : OO.length ≤ 4000) : okFile C ⟨f0.house, T, OO⟩ = true := by
 have hk0 := ha.2 f0 (List.mem_of_getElem? h0)
 have fact : ∀ t ∈ T, okFactK C t = true := fun t ht => by
  obtain ⟨z, hz, e⟩ := hf.tight.had ht
  have hz' := joinedF_mem hz
  have ok : ∀ x ∈ factsOf fs, okFactK C x = true := fun x hx => by
   obtain ⟨f, hfm, hxf⟩ := mem_facts.1 hx
   exact (okFactsL_ge (okFile_facts (ha.2 f hfm)) x hxf).2
  have er := rst_ref e
  obtain ⟨x1, hx1, e1, a1⟩ := hz'.act
  obtain ⟨x2, hx2, e2, a2⟩ := hz'.low
  obtain ⟨x3, hx3, e3, a3⟩ := hz'.high
  obtain ⟨x4, hx4, e4, a4⟩ := hz'.filed
  have l1 := hf.tight.leL z hz t ht er
  have l2 := hf.tight.leH z hz t ht er
  have l3 := hf.le t ht
  have ea : z.act = t.act := congrArg (fun y => y.2.1) e
  have ef : z.filed = t.filed := congrArg (fun y => y.2.2.1) e
  have k1 := ok x1 hx1
  have k2 := ok x2 hx2
  have k3 := ok x3 hx3
  have k4 := ok x4 hx4
  unfold okFactK okFactB at *
  simp only [Bool.and_eq_true, decide_eq_true_eq] at *
  omega
 have has : ∀ {f : KFile} {r : Int}, f ∈ fs → hasRef f.facts r = true → hasRef T r = true := fun {f r} hfm h => by
  obtain ⟨x, hx, rfl⟩ := hasRef_iff.1 h
  obtain ⟨z, hz, e⟩ := joinedF_of (mem_facts.2 ⟨f, hfm, hx⟩)
  obtain ⟨t, ht, e2⟩ := hf.tight.has hz
  exact hasRef_iff.2 ⟨t, ht, by rw [rst_ref e2, e]⟩
 have hrefs : ∀ t ∈ T, (0 : Int) < t.ref := fun t ht => by
  have h := fact t ht
  unfold okFactK okFactB at h
  simp only [Bool.and_eq_true, decide_eq_true_eq] at h
  omega
 have h1 := okFactsL_of (C := C) (prev := 0) hf.distinct fact hrefs
 have h2 := okOrdL_of (F := T) (p := none) hf.ord.1 (fun b hb => by
  obtain ⟨f, hfm, hbf⟩ := mem_orders.1 ((hf.ord.2 b).1 hb)
  have h := okOrdL_mem (okFile_ords (ha.2 f hfm)) b hbf
  exact ⟨has hfm h.1, has hfm h.2.1, h.2.2⟩) (fun a h => by cases h)
 unfold okFile at hk0 ⊢
 simp only [Bool.and_eq_true, Bool.not_eq_true', Bool.or_eq_false_iff, decide_eq_false_iff_not] at hk0 ⊢
 exact ⟨hk0.1, hk0.2.1, ⟨by omega, by omega⟩, h1, h2⟩
theorem JoinRes.cases {C : KCon} {fs : List KFile} {ho : Int} {F : List KFact} {O : List KBef} {er : Int} (h : JoinRes C fs ho F O er) :
 (er = 1 ∧ F = [] ∧ ¬ AllOk C fs) ∨ (er = 23 ∧ F = [] ∧ AllOk C fs ∧ Evid (factsOf fs) (ordersOf fs)) ∨ (er = 0 ∧ AllOk C fs ∧ Fine (factsOf fs) (ordersOf fs) F O ∧ ∃ f0, fs[0]? = some f0 ∧ ho = f0.house) := by
 rcases h with ⟨h1, _, h2, _, h3⟩ | ⟨ha, f0, h0, ⟨h1, h2, h3⟩ | ⟨h1, _, h2, _, h3⟩⟩
 · exact .inl ⟨h1, h2, h3⟩
 · exact .inr (.inr ⟨h1, ha, h3, f0, h0, h2⟩)
 · exact .inr (.inl ⟨h1, h2, ha, h3⟩)
theorem AllOk.known {C : KCon} {fs : List KFile} (h : AllOk C fs) : KnownL (factsOf fs) (ordersOf fs) := okFile_known h.2
theorem join_same {C : KCon} {fs gs : List KFile} (hok : AllOk C fs ↔ AllOk C gs) (hF : AllOk C fs → ∀ T OO, Fine (factsOf gs) (ordersOf gs) T OO → Fine (factsOf fs) (ordersOf fs) T OO) (hE : AllOk C fs → Evid (factsOf gs) (ordersOf gs) → Evid (factsOf fs) (ordersOf fs))
 {ho ho' : Int} {F F' : List KFact} {O O' : List KBef} {e e' : Int} (h : JoinRes C fs ho F O e) (h' : JoinRes C gs ho' F' O' e') : e = e' ∧ F = F' ∧ (e = 0 → O = O') := by
 rcases h.cases with ⟨rfl, rfl, hn⟩ | ⟨rfl, rfl, ha, hv⟩ | ⟨rfl, ha, hf, _⟩
 · rcases h'.cases with ⟨rfl, rfl, hn'⟩ | ⟨_, _, ha', _⟩ | ⟨_, ha', _⟩
   · exact ⟨rfl, rfl, fun h => by cases h⟩
   · exact absurd (hok.2 ha') hn
   · exact absurd (hok.2 ha') hn
 · rcases h'.cases with ⟨_, _, hn'⟩ | ⟨rfl, rfl, _, _⟩ | ⟨_, _, hf', _⟩
   · exact absurd (hok.1 ha) hn'
   · exact ⟨rfl, rfl, fun h => by cases h⟩
   · exact absurd hv ((hF ha _ _ hf').notEvid ha.known)
 · rcases h'.cases with ⟨_, _, hn'⟩ | ⟨_, _, _, hv'⟩ | ⟨rfl, _, hf', _⟩
   · exact absurd (hok.1 ha) hn'
   · exact absurd (hE ha hv') (hf.notEvid ha.known)
   · obtain ⟨rfl, rfl⟩ := hf.unique (hF ha _ _ hf') ha.known
     exact ⟨rfl, rfl, fun _ => rfl⟩
theorem join_mem {C : KCon} {fs gs : List KFile} (hm : ∀ f, f ∈ fs ↔ f ∈ gs) {ho ho' : Int} {F F' : List KFact} {O O' : List KBef} {e e' : Int} (h : JoinRes C fs ho F O e) (h' : JoinRes C gs ho' F' O' e') : e = e' ∧ F = F' ∧ (e = 0 → O = O') := by
 have mf : ∀ x, x ∈ factsOf gs ↔ x ∈ factsOf fs := fun x => by
  rw [mem_facts, mem_facts]
  constructor <;> rintro ⟨f, hf, hx⟩
  · exact ⟨f, (hm f).2 hf, hx⟩
  · exact ⟨f, (hm f).1 hf, hx⟩
 have mo : ∀ x, x ∈ ordersOf gs ↔ x ∈ ordersOf fs := fun x => by
  rw [mem_orders, mem_orders]
  constructor <;> rintro ⟨f, hf, hx⟩
  · exact ⟨f, (hm f).2 hf, hx⟩
  · exact ⟨f, (hm f).1 hf, hx⟩
 have hne : fs ≠ [] ↔ gs ≠ [] := by
  constructor
  · rintro h rfl
    cases fs with
    | nil => exact h rfl
    | cons a l => have := (hm a).1 (by simp); cases this
  · rintro h rfl
    cases gs with
    | nil => exact h rfl
    | cons a l => have := (hm a).2 (by simp); cases this
 refine join_same ⟨fun h => ⟨hne.1 h.1, fun f hf => h.2 f ((hm f).2 hf)⟩, fun h => ⟨hne.2 h.1, fun f hf => h.2 f ((hm f).1 hf)⟩⟩ (fun _ T OO hf => hf.congr mf mo) (fun _ hv => hv.congr mf mo) h h'
theorem join_part {C : KCon} {fs gs : List KFile} (hg : gs ≠ []) (hm : ∀ f ∈ gs, f ∈ fs) {ho ho' : Int} {F F' : List KFact} {O O' : List KBef} {e e' : Int} (h : JoinRes C fs ho F O e) (h' : JoinRes C gs ho' F' O' e') (he : e' ≠ 0) : e ≠ 0 := by
 rintro rfl
 rcases h.cases with ⟨h, _⟩ | ⟨h, _⟩ | ⟨_, ha, hf, _⟩
 · cases h
 · cases h
 · have ha' : AllOk C gs := ⟨hg, fun f hfm => ha.2 f (hm f hfm)⟩
   rcases h'.cases with ⟨_, _, hn⟩ | ⟨_, _, _, hv⟩ | ⟨h, _⟩
   · exact hn ha'
   · refine hv.more hf (fun x hx => ?_) (fun b hb => ?_) ha'.known
     · obtain ⟨f, hfm, hxf⟩ := mem_facts.1 hx
       exact mem_facts.2 ⟨f, hm f hfm, hxf⟩
     · obtain ⟨f, hfm, hxf⟩ := mem_orders.1 hb
       exact mem_orders.2 ⟨f, hm f hfm, hxf⟩
   · exact he h
theorem join_steps {C : KCon} {A B : List KFile} {f1 : KFile} (hok1 : okFile C f1 = true) (ha : AllOk C A) (hf1 : Fine (factsOf A) (ordersOf A) f1.facts f1.orders) {ho ho' : Int} {F F' : List KFact} {O O' : List KBef} {e e' : Int} (h : JoinRes C (A ++ B) ho F O e) (h' : JoinRes C (f1 :: B) ho' F' O' e') : e = e' ∧ F = F' ∧ (e = 0 → O = O') := by
 have e1 : factsOf (A ++ B) = factsOf A ++ factsOf B := by simp [factsOf]
 have e2 : ordersOf (A ++ B) = ordersOf A ++ ordersOf B := by simp [ordersOf]
 have e3 : factsOf (f1 :: B) = f1.facts ++ factsOf B := by simp [factsOf]
 have e4 : ordersOf (f1 :: B) = f1.orders ++ ordersOf B := by simp [ordersOf]
 refine join_same ⟨fun h => ⟨by simp, fun f hf => ?_⟩, fun h => ⟨by have := ha.1; simp [this], fun f hf => ?_⟩⟩ (fun _ T OO hf => ?_) (fun _ hv => ?_) h h'
 · rcases List.mem_cons.1 hf with rfl | hf
   · exact hok1
   · exact h.2 f (List.mem_append.2 (.inr hf))
 · rcases List.mem_append.1 hf with hf | hf
   · exact ha.2 f hf
   · exact h.2 f (List.mem_cons_of_mem _ hf)
 · rw [e3, e4] at hf
   rw [e1, e2]
   exact hf1.steps hf
 · rw [e3, e4] at hv
   rw [e1, e2]
   exact hv.steps hf1
theorem join_again {C : KCon} {L : List KFact} {O0 : List KBef} {f1 : KFile} (hok1 : okFile C f1 = true) (hf1 : Fine L O0 f1.facts f1.orders) {ho : Int} {F : List KFact} {O : List KBef} {e : Int} (h : JoinRes C [f1] ho F O e) : e = 0 ∧ ho = f1.house ∧ F = f1.facts ∧ O = f1.orders := by
 have ha : AllOk C [f1] := ⟨by simp, fun f hf => by rw [List.mem_singleton.1 hf]; exact hok1⟩
 have e1 : factsOf [f1] = f1.facts := by simp [factsOf]
 have e2 : ordersOf [f1] = f1.orders := by simp [ordersOf]
 have hk := ha.known
 rw [e1, e2] at hk
 rcases h.cases with ⟨_, _, hn⟩ | ⟨_, _, _, hv⟩ | ⟨rfl, _, hf, f0, h0, rfl⟩
 · exact absurd ha hn
 · rw [e1, e2] at hv
   exact absurd hv (hf1.again.notEvid hk)
 · rw [e1, e2] at hf
   obtain ⟨rfl, rfl⟩ := hf.unique hf1.again hk
   simp at h0
   subst h0
   exact ⟨rfl, rfl, rfl, rfl⟩
end Go.Proofs.YtahhdjeclbagnaaGreatDoor
namespace Go.Proofs.YtahhdjeclbagnaaGreatDoor
open Go.RowKit Go.Shelf
structure AppT (base : Nat) (e : TypeId) (size n : Nat) (w w' : World) : Prop where
 upd : Upd (fun k => base ≤ k) w w'
 row : ∀ v m ys, m ≤ n → w.ownsRow base e size v m ys → w'.ownsRow base e size v m ys
 few : ∀ (b : Nat) (arr : Array Value) (t : TypeId) (p : Nat × Nat), w.heap[b]? = some (Obj.cells arr t p) → arr.size ≤ n * size → w'.heap[b]? = some (.cells arr t p)
theorem AppT.of {base size n : Nat} {e : TypeId} {w w' : World} (h : Below w.heap.size w w') : AppT base e size n w w' :=
 ⟨⟨h.os, h.tape, h.output, h.size, fun k hk _ => h.block k hk⟩, fun _ _ _ _ hr => ownsRow_belowX hr h, fun b _ _ _ hb _ => (h.block b (lt_of_heap hb)).trans hb⟩
theorem AppT.room {base size n cap : Nat} {e : TypeId} {w : World} {g : Nat} {cur : Array Value} {xs news : List Value} (hb : base ≤ g) (hg : w.heap[g]? = some (.cells cur e (0, 0))) (hx : xs.length = n * size) (hcs : cur.size = cap * size) (ht : cur.toList.take (n * size) = xs) (hl : n * size + news.length ≤ cur.size) :
 AppT base e size n w (w.setRow g (cur.toList.take (n * size) ++ news ++ cur.toList.drop (n * size + news.length)).toArray) := by
 have hn := setRow_heap w g cur (cur.toList.take (n * size) ++ news ++ cur.toList.drop (n * size + news.length)).toArray e _ hg
 have hsz : (cur.toList.take (n * size) ++ news ++ cur.toList.drop (n * size + news.length)).toArray.size = cur.size := by
  simp only [List.size_toArray, List.length_append, List.length_take, List.length_drop, Array.length_toList]
  omega
 have htk : (cur.toList.take (n * size) ++ news ++ cur.toList.drop (n * size + news.length)).take (n * size) = xs := by
  rw [ht, List.append_assoc, ← hx, List.take_left]
 refine ⟨⟨rfl, rfl, rfl, by simp, fun k _ hk => setRow_other w g k _ (fun e => hk (by rw [e]; exact hb))⟩, fun v m ys hm hr => ⟨hr.1, ?_⟩, fun b arr t p hb2 hs => ?_⟩
 · rcases hr.2 with h | ⟨g2, c2, cur2, h1, h2, h3, h4, h5, h6, h7⟩
   · exact .inl h
   · by_cases hgg : g2 = g
     · subst hgg
       rw [hg] at h3
       cases h3
       refine .inr ⟨g2, c2, _, h1, h2, hn, h4, h5, by rw [hsz]; exact h6, ?_⟩
       have hle : m * size ≤ n * size := Nat.mul_le_mul_right _ hm
       have e1 := congrArg (List.take (m * size)) htk
       have e2 := congrArg (List.take (m * size)) ht
       rw [List.take_take, Nat.min_eq_left hle] at e1 e2
       rw [← h7, e2]
       exact e1
     · exact .inr ⟨g2, c2, cur2, h1, h2, (setRow_other w g g2 _ hgg).trans h3, h4, h5, h6, h7⟩
 · by_cases hgg : b = g
   · subst hgg
     rw [hg] at hb2
     cases hb2
     rw [hn]
     have e1 : cur.toList = xs := by rw [← ht, List.take_of_length_le (by simpa using hs)]
     have e2 : (cur.toList.take (n * size) ++ news ++ cur.toList.drop (n * size + news.length)) = xs := by
      exact (List.take_of_length_le (by have := hsz; simp only [List.size_toArray] at this; omega)).symm.trans htk
     rw [e2, ← e1]
   · exact (setRow_other w g b _ hgg).trans hb2
theorem run_append_kept {P : Program} {w : World} (base : Nat) (t ty e : TypeId) (i : TypeInfo) (z : Value) (size bytes : Nat) (ht : P.underlying t = some (.slice e)) (hi : P.info? e = some i) (hz : i.zero = some z)
 (hsize : i.size = size) (hby : i.bytes = bytes) (hzs : z.cells.size = size) (hsz : 0 < size)
 (v : Value) (n : Nat) (xs : List Value) (hown : w.ownsRow base e size v n xs)
 (a : Addr) (m c : Nat) (news : List Value) (hl : news.length = m * size) (hnews : ∀ j u, news[j]? = some u → w.cell? (a.add j) = some u) (h1 : ∀ u ∈ news, u.oneCell' = true)
 (h63 : n + m ≤ maxLen) (hbytes : (n + m) * bytes ≤ 140737488355328) (hbase : base ≤ w.heap.size) :
 ∃ A c' w', (Builtin.append_ #[t, t] ty #[v, .slice (some a) m c]).run P w = .ok (.slice A (n + m) c') w' ∧ w'.ownsRow base e size (.slice A (n + m) c') (n + m) (xs ++ news) ∧ AppT base e size n w w' := by
 subst hsize
 subst hby
 have hsmall : n + m ≤ 9223372036854775807 := by simp only [maxLen] at h63; omega
 have hlen : (xs ++ news).length = (n + m) * i.size := by rw [List.length_append, hown.1, hl, Nat.add_mul]
 have grown : ∀ (old : Nat),
  (w.drew.alloc (.cells (xs.toArray ++ news.toArray ++ Builtin.zeroCells z.cells (grownCap w (n + m) old e - (n + m))) e)).ownsRow base e i.size
   (.slice (some ⟨w.heap.size, 0, none⟩) (n + m) (grownCap w (n + m) old e)) (n + m) (xs ++ news) := by
  intro old
  have hge := grownCap_ge w (n + m) old e
  have hcm : grownCap w (n + m) old e ≤ maxLen := grownCap_le_maxLen w (n + m) old e h63
  refine ⟨hlen, .inr ⟨w.heap.size, _, _, rfl, hbase, heap_alloc_new w.drew _, hge, hcm, ?_, ?_⟩⟩
  · simp only [Array.size_append, List.size_toArray, size_zeroCells, hzs, hown.1, hl, ← Nat.add_mul]
    congr 1
    omega
  · simp only [Array.toList_append, List.append_assoc]
    rw [← List.append_assoc, ← hlen]
    exact List.take_left
 have hbw : ∀ o, Below w.heap.size w (w.drew.alloc o) := fun o => Below.alloc' (Below.refl _ _).drew _
 rcases hown.2 with ⟨rfl, rfl⟩ | ⟨g, cap, cur, rfl, hbg, hg, hnc, hcm, hcs, htake⟩
 · have hx : xs = [] := List.eq_nil_of_length_eq_zero (by simpa using hown.1)
   subst hx
   by_cases hm : m = 0
   · subst hm
     have hn : news = [] := List.eq_nil_of_length_eq_zero (by simpa using hl)
     subst hn
     refine ⟨none, 0, w, ?_, World.ownsRow_nil w base e i.size, AppT.of (Below.refl _ _)⟩
     simp [Builtin.append_, run_underlying ht, sizeOf, typeInfo, hi, Builtin.lenOf, Builtin.firstCells, loadCells, loadCellsFrom]
   · have hr := run_append_nil (P := P) w t ty e i z ht hi hz a m c news hl hnews (by omega) (by omega) (by have hb := hbytes; simp only [Nat.zero_add] at hb; omega)
     have hgr := grown 0
     simp only [Nat.zero_add, List.nil_append, Array.empty_append] at hgr ⊢
     exact ⟨_, _, _, hr, hgr, AppT.of (hbw _)⟩
 · by_cases hroom : n + m ≤ cap
   · have hfit : n * i.size + news.length ≤ cur.size := by rw [hl, hcs, ← Nat.add_mul]; exact Nat.mul_le_mul_right _ hroom
     have hr := run_append_room (P := P) w t ty e i ht hi g n cap cur hg a m c news hl hnews h1 hroom hfit
     refine ⟨_, _, _, hr, ⟨hlen, .inr ⟨g, cap, _, rfl, hbg, setRow_heap w g cur _ e _ hg, hroom, hcm, ?_, ?_⟩⟩, AppT.room hbg hg hown.1 hcs htake hfit⟩
     · simp only [List.size_toArray, List.length_append, List.length_take, List.length_drop, Array.length_toList]
       omega
     · rw [htake, ← hlen]
       exact List.take_left
   · have holds : ∀ j u, xs[j]? = some u → w.cell? ((⟨g, 0, none⟩ : Addr).add j) = some u := hown.cells (g := g) rfl
     have hr := run_append_grow (P := P) w t ty e i z ht hi hz ⟨g, 0, none⟩ n cap xs hown.1 holds a m c news hl hnews (by omega) (by omega) (growslice_fits (by omega) hbytes)
     exact ⟨_, _, _, hr, grown cap, AppT.of (hbw _)⟩
def rowSpec (B : Nat) (e : TypeId) (size n : Nat) (xs : List Value) : MSpec :=
 ⟨fun v => ∃ A c, v = .slice A n c, fun v z => z.ownsRow B e size v n xs⟩
theorem rowSpec_keeps (B : Nat) (e : TypeId) (size n : Nat) (xs : List Value) : (rowSpec B e size n xs).Keeps := fun _ _ _ h hb => ownsRow_belowX h hb
theorem rowSpec_keepsT {ops : Array Oper} {B : Nat} {e : TypeId} {size n m : Nat} {xs : List Value} {f i : Nat} (h : i ≠ f → m ≤ n) : KeepsT ops (AppT B e size n) f i (rowSpec B e size m xs) :=
 ⟨rowSpec_keeps _ _ _ _ _, fun hi _ _ _ _ hs ht => ht.row _ _ _ (h hi) hs⟩
theorem cellSpecT_keepsA {ops : Array Oper} {W0 : World} {B : Nat} {e t : TypeId} {size n : Nat} {cs : Array Value} {f i : Nat} (h : cs.size ≤ n * size) : KeepsT ops (AppT B e size n) f i (cellSpecT W0 t cs) :=
 ⟨fun _ _ _ hs hb b hv => ⟨(hs b hv).1, (hb.block b (lt_of_heap (hs b hv).2)).trans (hs b hv).2⟩, fun _ _ _ _ _ hs ht b hv => ⟨(hs b hv).1, ht.few _ _ _ _ (hs b hv).2 h⟩⟩
def newSpec (W0 : World) (t : TypeId) (cs : Array Value) : MSpec :=
 ⟨fun v => ∃ b, W0.heap.size ≤ b ∧ v = .pointer (some ⟨b, 0, none⟩), fun v z => ∀ b, v = .pointer (some ⟨b, 0, none⟩) → z.heap[b]? = some (.cells cs t (0, 0))⟩
theorem newSpec_keepsA {ops : Array Oper} {W0 : World} {B : Nat} {e t : TypeId} {size n : Nat} {cs : Array Value} {f i : Nat} (h : cs.size ≤ n * size) : KeepsT ops (AppT B e size n) f i (newSpec W0 t cs) :=
 ⟨fun _ _ _ hs hb b hv => (hb.block b (lt_of_heap (hs b hv))).trans (hs b hv), fun _ _ _ _ _ hs ht b hv => ht.few _ _ _ _ (hs b hv) h⟩
theorem turns_app (W0 : World) (e : TypeId) (size n : Nat) : Turns (fun z => Below W0.heap.size W0 z) (fun z => Below W0.heap.size W0 z) (AppT W0.heap.size e size n) where
 sub := fun _ h => h
 b0 := fun _ _ h hb => Below.step h hb
 b1 := fun _ _ h hb => Below.step h hb
 t := fun _ _ h ht => h.trans (ht.upd.below h.size (fun _ h => h))
theorem turned_kept {P : Program} {z : World} {o : Oper} {ρ : Operand → Value} (s x : Operand) (t : TypeId) (hop : o.op = Op.call { callee := Callee.builtin Builtin.append, args := #[s, x], argTypes := #[t, t] })
 (base : Nat) (e : TypeId) (i : TypeInfo) (z0 : Value) (size bytes : Nat) (ht : P.underlying t = some (.slice e)) (hi : P.info? e = some i) (hz : i.zero = some z0) (hsize : i.size = size) (hby : i.bytes = bytes) (hzs : z0.cells.size = size) (hsz : 0 < size)
 (v : Value) (n : Nat) (xs : List Value) (hs : ρ s = v) (hown : z.ownsRow base e size v n xs) (a : Addr) (m c : Nat) (news : List Value) (hx : ρ x = .slice (some a) m c) (hl : news.length = m * size) (hnews : ∀ j u, news[j]? = some u → z.cell? (a.add j) = some u) (h1 : ∀ u ∈ news, u.oneCell' = true)
 (h63 : n + m ≤ maxLen) (hbytes : (n + m) * bytes ≤ 140737488355328) (hbase : base ≤ z.heap.size) :
 turnedUpon (AppT base e size n) z (rowSpec base e size (n + m) (xs ++ news)) ((execOp ρ o).run P z) := by
 obtain ⟨A, c', w', hrun, r1, r2⟩ := run_append_kept (P := P) base t o.type e i z0 size bytes ht hi hz hsize hby hzs hsz v n xs hown a m c news hl hnews h1 h63 hbytes hbase
 simp only [execOp, hop, resolve, invoke, builtin, Sem.run_bind, Sem.run_pure, Result.andThen_ok, List.map_toArray, List.map_cons, List.map_nil, hs, hx, hrun]
 exact ⟨⟨A, c', rfl⟩, r1, r2⟩
theorem made_kept {P : Program} {z : World} {o : Oper} {ρ : Operand → Value} (s x : Operand) (t : TypeId) (hop : o.op = Op.call { callee := Callee.builtin Builtin.append, args := #[s, x], argTypes := #[t, t] })
 (base : Nat) (e : TypeId) (i : TypeInfo) (z0 : Value) (size bytes : Nat) (ht : P.underlying t = some (.slice e)) (hi : P.info? e = some i) (hz : i.zero = some z0) (hsize : i.size = size) (hby : i.bytes = bytes) (hzs : z0.cells.size = size) (hsz : 0 < size)
 (g n : Nat) (cs : Array Value) (hs : ρ s = .slice (some ⟨g, 0, none⟩) n n) (hg : z.heap[g]? = some (.cells cs e (0, 0))) (hcs : cs.size = n * size) (hn : n ≤ maxLen) (hbg : base ≤ g) (a : Addr) (m c : Nat) (news : List Value) (hx : ρ x = .slice (some a) m c) (hl : news.length = m * size) (hnews : ∀ j u, news[j]? = some u → z.cell? (a.add j) = some u) (h1 : ∀ u ∈ news, u.oneCell' = true)
 (h63 : n + m ≤ maxLen) (hbytes : (n + m) * bytes ≤ 140737488355328) {N : Nat} {ys : List Value} (hN : n + m = N) (hX : cs.toList ++ news = ys) :
 makesUpon P z (rowSpec base e size N ys) ((execOp ρ o).run P z) := by
 subst hN hX
 have hown : z.ownsRow base e size (.slice (some ⟨g, 0, none⟩) n n) n cs.toList := ⟨by simp [hcs], .inr ⟨g, n, cs, rfl, hbg, hg, Nat.le_refl _, hn, hcs, List.take_of_length_le (by simp [hcs])⟩⟩
 have hlt := lt_of_heap hg
 by_cases hm : m = 0
 · subst hm
   have hnw : news = [] := List.eq_nil_of_length_eq_zero (by simpa using hl)
   subst hnw
   have hr := run_append_room (P := P) z t o.type e i ht hi g n n cs hg a 0 c [] (by simp) hnews h1 (Nat.le_refl _) (by simp [hsize, hcs])
   have e1 : z.setRow g (cs.toList.take (n * i.size) ++ [] ++ cs.toList.drop (n * i.size + ([] : List Value).length)).toArray = z := by
    rw [List.append_nil, List.length_nil, Nat.add_zero, List.take_append_drop, Array.toArray_toList]
    have hh : (z.setRow g cs).heap = z.heap := by
     apply Array.ext_getElem?
     intro j
     by_cases hj : j = g
     · subst hj; rw [setRow_heap z j cs cs e _ hg, hg]
     · exact setRow_other z g j cs hj
    cases z
    simp only [World.setRow] at hh ⊢
    rw [hh]
   rw [e1] at hr
   simp only [execOp, hop, resolve, invoke, builtin, Sem.run_bind, Sem.run_pure, Result.andThen_ok, List.map_toArray, List.map_cons, List.map_nil, hs, hx, hr]
   exact ⟨⟨_, _, rfl⟩, (by rw [List.append_nil]; exact hown), Below.refl _ _⟩
 · subst hsize
   have holds : ∀ j u, cs.toList[j]? = some u → z.cell? ((⟨g, 0, none⟩ : Addr).add j) = some u := hown.cells (g := g) rfl
   subst hby
   have hsmall : n + m ≤ 9223372036854775807 := by simp only [maxLen] at h63; omega
   have hr := run_append_grow (P := P) z t o.type e i z0 ht hi hz ⟨g, 0, none⟩ n n cs.toList hown.1 holds a m c news hl hnews (by omega) (by omega) (growslice_fits (by omega) hbytes)
   have hlen : (cs.toList ++ news).length = (n + m) * i.size := by rw [List.length_append, hown.1, hl, Nat.add_mul]
   have hge := grownCap_ge z (n + m) n e
   have hcm : grownCap z (n + m) n e ≤ maxLen := grownCap_le_maxLen z (n + m) n e h63
   simp only [execOp, hop, resolve, invoke, builtin, Sem.run_bind, Sem.run_pure, Result.andThen_ok, List.map_toArray, List.map_cons, List.map_nil, hs, hx, hr]
   refine ⟨⟨_, _, rfl⟩, ⟨hlen, .inr ⟨z.heap.size, _, _, rfl, by omega, heap_alloc_new z.drew _, hge, hcm, ?_, ?_⟩⟩, Below.alloc' (Below.refl _ _).drew _⟩
   · have h5 := hown.1
     simp only [Array.length_toList] at h5
     simp only [Array.size_append, List.size_toArray, size_zeroCells, hzs, hl, h5, ← Nat.add_mul]
     congr 1
     omega
   · simp only [Array.toList_append, List.append_assoc]
     rw [← List.append_assoc, ← hlen]
     exact List.take_left
theorem FilesAt.pairs {w : World} {v : SV} {l : List KFile} (h : FilesAt w v l) : ∃ P : List (KFile × FV), P.map Prod.fst = l ∧ At w 3 v.A l.length v.c (fileRow P) ∧ ∀ p ∈ P, FileAt w p.2 p.1 := by
 obtain ⟨ts, h1, h2, h3⟩ := h
 refine ⟨l.zip ts, List.map_fst_zip (by omega), h2, fun p hp => ?_⟩
 obtain ⟨i, hi⟩ := List.getElem?_of_mem hp
 rw [List.getElem?_zip_eq_some] at hi
 exact h3 i _ _ hi.1 hi.2
theorem FilesAt.of {w : World} {v : SV} {P : List (KFile × FV)} (h : At w 3 v.A P.length v.c (fileRow P)) (hf : ∀ p ∈ P, FileAt w p.2 p.1) : FilesAt w v (P.map Prod.fst) := by
 have hz : (P.map Prod.fst).zip (P.map Prod.snd) = P := by rw [← List.unzip_fst, ← List.unzip_snd]; exact List.zip_unzip P
 refine ⟨P.map Prod.snd, by simp, by rw [hz, List.length_map]; exact h, fun i f t hi ht => ?_⟩
 have h2 : ((P.map Prod.fst).zip (P.map Prod.snd))[i]? = some (f, t) := by rw [List.getElem?_zip_eq_some]; exact ⟨hi, ht⟩
 rw [hz] at h2
 exact hf _ (List.mem_of_getElem? h2)
theorem fileRow_len (P : List (KFile × FV)) : (fileRow P).length = P.length * 3 := length_flat (fun p : KFile × FV => FV.cells p.2 p.1) 3 (fun _ => rfl) P
theorem fileRow_one {P : List (KFile × FV)} : ∀ u ∈ fileRow P, u.oneCell' = true := fun u hu => by
 obtain ⟨p, _, hp⟩ := List.mem_flatMap.1 hu
 simp only [FV.cells, List.mem_cons, List.not_mem_nil, or_false] at hp
 rcases hp with rfl | rfl | rfl <;> rfl
theorem fileRow_take (P : List (KFile × FV)) (m : Nat) : (fileRow P).take (m * 3) = fileRow (P.take m) := by
 have e : fileRow P = fileRow (P.take m) ++ fileRow (P.drop m) := by unfold fileRow; rw [← List.flatMap_append, List.take_append_drop]
 rcases Nat.le_total m P.length with h | h
 · have h2 : (fileRow (P.take m)).length = m * 3 := by rw [fileRow_len, List.length_take, Nat.min_eq_left h]
   rw [e, ← h2, List.take_left]
 · rw [List.take_of_length_le h, List.take_of_length_le (by rw [fileRow_len]; omega)]
theorem fileRow_drop (P : List (KFile × FV)) (m : Nat) (j : Nat) : (fileRow (P.drop m))[j]? = (fileRow P)[m * 3 + j]? := by
 have e : fileRow P = fileRow (P.take m) ++ fileRow (P.drop m) := by unfold fileRow; rw [← List.flatMap_append, List.take_append_drop]
 rcases Nat.le_total m P.length with h | h
 · have h2 : (fileRow (P.take m)).length = m * 3 := by rw [fileRow_len, List.length_take, Nat.min_eq_left h]
   rw [e, List.getElem?_append_right (by omega), h2, Nat.add_sub_cancel_left]
 · rw [List.drop_eq_nil_of_le h]
   exact (List.getElem?_eq_none (l := fileRow P) (by rw [fileRow_len]; omega)).symm
theorem rowAtS {w : World} {B size : Nat} {e : TypeId} {n c : Nat} {A : Option Addr} {xs : List Value} (h : w.ownsRow B e size (.slice A n c) n xs) (h1 : ∀ u ∈ xs, u.oneCell' = true) : At w size A n c xs := by
 have hl := h.1
 rcases h.2 with ⟨h2, h3⟩ | ⟨g, cap, cur, h2, _, h3, h4, h5, h6, h7⟩
 · simp only [Value.slice.injEq] at h2
   obtain ⟨rfl, rfl, rfl⟩ := h2
   have e : xs = [] := List.eq_nil_of_length_eq_zero (by omega)
   subst e
   exact at_nilX _ _
 · simp only [Value.slice.injEq] at h2
   obtain ⟨rfl, _, rfl⟩ := h2
   have o : Own w e g xs := ⟨cur.toList.drop (n * size), by rw [← h7, List.take_append_drop, Array.toArray_toList]; exact h3⟩
   exact o.toAt hl h1 h4 h5
theorem FilesAt.own {w : World} {B : Nat} {e : TypeId} {A : Option Addr} {c n : Nat} {P : List (KFile × FV)} (hn : P.length = n) (h : w.ownsRow B e 3 (.slice A n c) n (fileRow P)) (hf : ∀ p ∈ P, FileAt w p.2 p.1) : FilesAt w ⟨A, c⟩ (P.map Prod.fst) := by
 subst hn
 exact FilesAt.of (rowAtS h fileRow_one) hf
theorem FilesAt.take {w : World} {v : SV} {l : List KFile} (h : FilesAt w v l) {m : Nat} (hm : m ≤ l.length) : FilesAt w v (l.take m) := by
 obtain ⟨P, rfl, h2, h3⟩ := h.pairs
 rw [List.length_map] at h2 hm
 have hl : (P.take m).length = m := by rw [List.length_take, Nat.min_eq_left hm]
 rw [← List.map_take]
 refine FilesAt.of ?_ (fun p hp => h3 p (List.mem_of_mem_take hp))
 rw [hl]
 refine ⟨⟨by rw [fileRow_len, hl], fileRow_one, fun h0 => ?_⟩, fun e => ?_, by have := h2.2.2.1; omega, h2.2.2.2⟩
 · obtain ⟨ad, e, hc⟩ := h2.1.2.2 (by omega)
   refine ⟨ad, e, fun j u hj => hc j u ?_⟩
   rw [← fileRow_take, List.getElem?_take] at hj
   split at hj
   · exact hj
   · cases hj
 · have := h2.2.1 e
   exact ⟨by omega, this.2⟩
def exSpec (W0 : World) (e : TypeId) (n : Nat) (cs : Array Value) : MSpec :=
 ⟨fun v => ∃ b, W0.heap.size ≤ b ∧ v = .slice (some ⟨b, 0, none⟩) n n, fun v z => ∀ b, v = .slice (some ⟨b, 0, none⟩) n n → W0.heap.size ≤ b ∧ z.heap[b]? = some (.cells cs e (0, 0))⟩
theorem exSpec_keeps (W0 : World) (e : TypeId) (n : Nat) (cs : Array Value) : (exSpec W0 e n cs).Keeps := fun _ _ _ hs hb b hv => ⟨(hs b hv).1, (hb.block b (lt_of_heap (hs b hv).2)).trans (hs b hv).2⟩
theorem exSpec_keepsA {ops : Array Oper} {W0 : World} {B : Nat} {e t : TypeId} {size n m : Nat} {cs : Array Value} {f i : Nat} (h : cs.size ≤ n * size) : KeepsT ops (AppT B e size n) f i (exSpec W0 t m cs) :=
 ⟨exSpec_keeps _ _ _ _, fun _ _ _ _ _ hs ht b hv => ⟨(hs b hv).1, ht.few _ _ _ _ (hs b hv).2 h⟩⟩
theorem newSpec_keeps (W0 : World) (t : TypeId) (cs : Array Value) : (newSpec W0 t cs).Keeps := fun _ _ _ hs hb b hv => (hb.block b (lt_of_heap (hs b hv))).trans (hs b hv)
def joinSpecL (C : KCon) (l : List KFile) : MSpec :=
 ⟨fun v => ∃ (ho' : Int) (n : Nat) (er : Int) (A : Option Addr) (c n' : Nat) (A' : Option Addr) (c' : Nat), v = .tuple #[.agg #[.int .i64 ho', .slice A n c, .slice A' n' c'], .int .i64 er],
  fun v z => ∃ (ho' : Int) (F' : List KFact) (O' : List KBef) (er : Int) (A : Option Addr) (c : Nat) (A' : Option Addr) (c' : Nat), v = .tuple #[.agg #[.int .i64 ho', .slice A F'.length c, .slice A' O'.length c'], .int .i64 er] ∧ FileAt z ⟨⟨A, c⟩, ⟨A', c'⟩⟩ ⟨ho', F', O'⟩ ∧ JoinRes C l ho' F' O' er⟩
theorem joinSpecL_keeps (C : KCon) (l : List KFile) : (joinSpecL C l).Keeps := fun _ _ _ h hb => by
 obtain ⟨ho', F', O', er, A, c, A', c', h1, h2, h3⟩ := h
 exact ⟨ho', F', O', er, A, c, A', c', h1, h2.below hb, h3⟩
theorem join_makesL (v : CV) (C : KCon) (l : List KFile) (z : World) (A : Option Addr) (c n : Nat) (hn' : l.length = n) (hC : ConAt z v C) (hF : FilesAt z ⟨A, c⟩ l) (hn : l.length ≤ 100) (hR : ∀ x ∈ factsOf l, In64 x.ref) (hL : (factsOf l).length ≤ 4000) (hO : (ordersOf l).length ≤ 4000) :
 Calls Tryz.prog 11 #[v.val C, .slice A n c] z (fun e w'' => ∃ v, e = .returned v ∧ (joinSpecL C l).V v ∧ (joinSpecL C l).S v w'' ∧ Below z.heap.size z w'') := by
 subst hn'
 refine (join_any v C ⟨A, c⟩ l z hC hF hn hR hL hO).mono ?_
 rintro e w' ⟨ho', F', O', er, A, c, A', c', rfl, hfa, _, hb, hj⟩
 exact ⟨_, rfl, ⟨ho', F'.length, er, A, c, O'.length, A', c', rfl⟩, ⟨ho', F', O', er, A, c, A', c', rfl, hfa, hj⟩, hb⟩
theorem At.apart {w w' : World} {size n c b : Nat} {A : Option Addr} {xs : List Value} {arr : Array Value} {t : TypeId} (h : At w size A n c xs) (hs : 0 < size) (hb : w.heap[b]? = some (.cells arr t (0, 0))) (hu : Upd (fun k => k = b) w w') (hno : 0 < n → ∀ off : Nat, ∃ j, j < n * size ∧ arr[off + j]? ≠ xs[j]?) : At w' size A n c xs := by
 refine ⟨⟨h.1.1, h.1.2.1, fun hn => ?_⟩, h.2⟩
 obtain ⟨b2, off, hA, hlt, hc⟩ := h.1.form hn hs
 by_cases hbb : b2 = b
 · subst hbb
   obtain ⟨j, hj, hne⟩ := hno hn off
   have h2 := hc j hj
   rw [cell_of_row w b2 (off + j) arr t (0, 0) hb] at h2
   exact absurd h2 hne
 · refine ⟨_, hA, fun j u hj => ?_⟩
   have hjl : j < n * size := by rw [← h.1.1]; exact (List.getElem?_eq_some_iff.1 hj).1
   rw [Addr.add_lit]
   exact (updCell hu hlt hbb).trans ((hc j hjl).trans hj)
theorem FileAt.apart {w w' : World} {t : FV} {f : KFile} {b : Nat} {ty : TypeId} (h : FileAt w t f) (hb : w.heap[b]? = some (.cells #[.int .i64 0, .slice none 0 0, .slice none 0 0] ty (0, 0))) (hu : Upd (fun k => k = b) w w') : FileAt w' t f := by
 refine ⟨h.facts.apart (by omega) hb hu (fun hn off => ⟨5, by omega, ?_⟩), h.orders.apart (by omega) hb hu (fun hn off => ?_)⟩
 · cases hF : f.facts with
   | nil => rw [hF] at hn; simp at hn
   | cons x l => simp [factCells, KFact.cells]
 · cases hO : f.orders with
   | nil => rw [hO] at hn; simp at hn
   | cons x l =>
    by_cases h0 : off = 0
    · subst h0
      exact ⟨1, by simp only [List.length_cons]; omega, by simp [befCells, KBef.cells]⟩
    · refine ⟨0, by simp only [List.length_cons]; omega, ?_⟩
      rcases off with _ | _ | _ | off
      · omega
      · simp [befCells, KBef.cells]
      · simp [befCells, KBef.cells]
      · simp [befCells, KBef.cells]
theorem sorted_lenB : ∀ {O L : List KBef}, O.Pairwise ltB → (∀ b ∈ O, b ∈ L) → O.length ≤ L.length
 | [], _, _, _ => Nat.zero_le _
 | a :: O, L, hp, hm => by
  rw [List.pairwise_cons] at hp
  have h1 := sorted_lenB (L := L.erase a) hp.2 (fun b hb => (List.mem_erase_of_ne (fun e => ltB_irr a (by have := hp.1 b hb; rw [e] at this; exact this))).2 (hm b (List.mem_cons_of_mem _ hb)))
  have h2 := hm a (by simp)
  rw [List.length_erase_of_mem h2] at h1
  have h3 := List.length_pos_of_mem h2
  simp only [List.length_cons]
  omega
theorem JoinRes.size {C : KCon} {fs : List KFile} {ho : Int} {F : List KFact} {O : List KBef} {er : Int} (h : JoinRes C fs ho F O er) : F.length ≤ (factsOf fs).length ∧ O.length ≤ (ordersOf fs).length ∧ ((∀ x ∈ factsOf fs, In64 x.ref) → ∀ x ∈ F, In64 x.ref) := by
 have fine : Fine (factsOf fs) (ordersOf fs) F O → F.length ≤ (factsOf fs).length ∧ O.length ≤ (ordersOf fs).length ∧ ((∀ x ∈ factsOf fs, In64 x.ref) → ∀ x ∈ F, In64 x.ref) := fun hf => by
  have h1 := tight_len hf.tight
  have h2 := joinedF_len (factsOf fs)
  have h3 := keysOf_len (factsOf fs)
  refine ⟨by omega, sorted_lenB hf.ord.1 (fun b hb => (hf.ord.2 b).1 hb), fun hr x hx => ?_⟩
  obtain ⟨z, hz, e⟩ := hf.tight.had hx
  obtain ⟨y, hy, e2, _⟩ := (joinedF_mem hz).act
  rw [← rst_ref e, ← e2]
  exact hr y hy
 rcases h with ⟨_, _, rfl, rfl, _⟩ | ⟨_, f0, _, ⟨_, _, hf⟩ | ⟨_, _, rfl, rfl, _⟩⟩
 · exact ⟨Nat.zero_le _, Nat.zero_le _, fun _ x hx => by cases hx⟩
 · exact fine hf
 · exact ⟨Nat.zero_le _, Nat.zero_le _, fun _ x hx => by cases hx⟩
theorem small_len {gs : List KFile} (h : ∀ f ∈ gs, f.facts.length ≤ 14 ∧ f.orders.length ≤ 14) (hl : gs.length ≤ 100) : (factsOf gs).length ≤ 1400 ∧ (ordersOf gs).length ≤ 1400 := by
 have h1 := sum_le (l := gs) (g := fun f => f.facts.length) (fun f hf => (h f hf).1)
 have h2 := sum_le (l := gs) (g := fun f => f.orders.length) (fun f hf => (h f hf).2)
 have e1 : (factsOf gs).length = (gs.map (fun f => f.facts.length)).sum := by unfold factsOf; rw [List.length_flatMap]
 have e2 : (ordersOf gs).length = (gs.map (fun f => f.orders.length)).sum := by unfold ordersOf; rw [List.length_flatMap]
 omega
theorem JoinRes.fine {C : KCon} {fs : List KFile} {ho : Int} {F : List KFact} {O : List KBef} (h : JoinRes C fs ho F O 0) : AllOk C fs ∧ Fine (factsOf fs) (ordersOf fs) F O ∧ ∃ f0, fs[0]? = some f0 ∧ ho = f0.house := by
 rcases h with ⟨h, _⟩ | ⟨ha, f0, h0, ⟨_, h1, hf⟩ | ⟨h, _⟩⟩
 · cases h
 · exact ⟨ha, hf, f0, h0, h1⟩
 · cases h
theorem JoinRes.none {C : KCon} {fs : List KFile} {ho : Int} {F : List KFact} {O : List KBef} {er : Int} (h : JoinRes C fs ho F O er) (he : er ≠ 0) : F = [] := by
 rcases h with ⟨_, _, h, _⟩ | ⟨ha, f0, h0, ⟨h, _⟩ | ⟨_, _, h, _⟩⟩
 · exact h
 · exact absurd h he
 · exact h
end Go.Proofs.YtahhdjeclbagnaaGreatDoor
