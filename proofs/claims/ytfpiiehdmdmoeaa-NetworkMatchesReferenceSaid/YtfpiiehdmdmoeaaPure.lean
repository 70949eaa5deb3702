/-
  The network in plain terms: packets, fates, queues; what Send, Receive and Step do to them.
-/
namespace Go.Proofs.Ytfpiiehdmdmoeaa

structure Pkt where
  frm : Int
  dst : Int
  body : ByteArray
structure Fate where
  lost : Bool
  copies : Int
  delay : Int
structure Flight where
  p : Pkt
  due : Int
structure Net where
  fates : List Fate
  time : Nat
  waiting : Nat
  queues : List (List Flight)
structure Rf where
  houses : Nat
  fates : List Fate
  time : Nat
  copies : List Flight

def Fate.ok (f : Fate) : Bool := f.lost || (decide (1 ≤ f.copies) && decide (f.copies ≤ 9) && decide (0 ≤ f.delay) && decide (f.delay ≤ 100))
def Fate.many (f : Fate) : Nat := if f.lost then 0 else f.copies.toNat
def one : Fate := ⟨false, 1, 0⟩

def okHouse (houses : Nat) (h : Int) : Bool := decide (0 ≤ h) && decide (h < houses)
def okSend (houses : Nat) (p : Pkt) : Bool := okHouse houses p.frm && okHouse houses p.dst && (p.frm != p.dst)
theorem okHouse_yes {n : Nat} {h : Int} (e : okHouse n h = true) : 0 ≤ h ∧ h < n := by simpa [okHouse] using e
theorem okHouse_no {n : Nat} {h : Int} (e : okHouse n h = false) : h < 0 ∨ (n : Int) ≤ h := by
  unfold okHouse at e
  simp at e
  omega

/-- A queue with c copies of a flight put in, behind all that are due no later. -/
def ins (q : List Flight) (x : Flight) (c : Nat) : List Flight :=
  q.takeWhile (fun f => decide (f.due ≤ x.due)) ++ List.replicate c x ++ q.dropWhile (fun f => decide (f.due ≤ x.due))

def Net.new (houses : Nat) (fates : List Fate) : Net := ⟨fates, 0, 0, List.replicate houses []⟩

def Net.send (n : Net) (p : Pkt) : Net × Int :=
  if okSend n.queues.length p = false then (n, 1)
  else
    let f := n.fates.headD one
    if 4000 < n.waiting + f.many then (n, 3)
    else (⟨n.fates.tail, n.time, n.waiting + f.many, n.queues.set p.dst.toNat (ins (n.queues.getD p.dst.toNat []) ⟨p, n.time + f.delay⟩ f.many)⟩, 0)

theorem send_eq (n : Net) (p : Pkt) (h : okSend n.queues.length p = true) (f : Fate) (hf : n.fates.headD one = f) (c : Nat) (hc : f.many = c) (hl : n.waiting + c ≤ 4000) :
    n.send p = (⟨n.fates.tail, n.time, n.waiting + c, n.queues.set p.dst.toNat (ins (n.queues.getD p.dst.toNat []) ⟨p, n.time + f.delay⟩ c)⟩, 0) := by
  subst hc hf
  unfold Net.send
  rw [if_neg (by simp [h]), if_neg (by omega)]

def arrived (t : Nat) (q : List Flight) : List Flight := q.takeWhile (fun f => decide (f.due ≤ t))
def onWay (t : Nat) (q : List Flight) : List Flight := q.dropWhile (fun f => decide (f.due ≤ t))

theorem mem_takeWhile {α : Type} {p : α → Bool} {x : α} : ∀ {l : List α}, x ∈ l.takeWhile p → p x = true
  | [], h => by cases h
  | a :: l, h => by
    cases e : p a with
    | false => simp [e] at h
    | true =>
      simp only [List.takeWhile_cons, e, if_true, List.mem_cons] at h
      rcases h with rfl | h
      · exact e
      · exact mem_takeWhile h
theorem arrived_le (t : Nat) (q : List Flight) : (arrived t q).length ≤ q.length := by
  unfold arrived
  have := congrArg List.length (List.takeWhile_append_dropWhile (p := fun f : Flight => decide (f.due ≤ t)) (l := q))
  rw [List.length_append] at this
  omega
theorem arrived_eq (t : Nat) (q : List Flight) : arrived t q = q.take (arrived t q).length ∧ onWay t q = q.drop (arrived t q).length := by
  have e := List.takeWhile_append_dropWhile (p := fun f : Flight => decide (f.due ≤ t)) (l := q)
  have h1 := congrArg (List.take (arrived t q).length) e
  have h2 := congrArg (List.drop (arrived t q).length) e
  unfold arrived at h1 h2 ⊢
  unfold onWay
  rw [List.take_left] at h1
  rw [List.drop_left] at h2
  exact ⟨h1, h2⟩
theorem arrived_get (t : Nat) (q : List Flight) (m : Nat) (x : Flight) (hm : m < (arrived t q).length) (hx : q[m]? = some x) : x.due ≤ t := by
  have e := (arrived_eq t q).1
  have hx' : x ∈ arrived t q := by
    rw [e]
    exact List.mem_of_getElem? (i := m) (by rw [List.getElem?_take, if_pos hm]; exact hx)
  have := mem_takeWhile hx'
  simpa using this
theorem arrived_stop (t : Nat) (q : List Flight) (x : Flight) (hx : q[(arrived t q).length]? = some x) : t < x.due := by
  have e := (arrived_eq t q).2
  have h1 : (onWay t q)[0]? = some x := by rw [e, List.getElem?_drop]; simpa using hx
  unfold onWay at h1
  have h2 := List.head?_dropWhile_not (fun f : Flight => decide (f.due ≤ t)) q
  rw [List.head?_eq_getElem?, h1] at h2
  simpa using h2

def Net.recv (n : Net) (h : Int) : Net × List Pkt × Int :=
  if okHouse n.queues.length h = false then (n, [], 1)
  else (⟨n.fates, n.time, n.waiting - (arrived n.time (n.queues.getD h.toNat [])).length, n.queues.set h.toNat (onWay n.time (n.queues.getD h.toNat []))⟩,
    (arrived n.time (n.queues.getD h.toNat [])).map (·.p), 0)

def Net.step (n : Net) : Net := ⟨n.fates, n.time + 1, n.waiting, n.queues⟩

/-- Each queue by the times of arrival. -/
def sorted (q : List Flight) : Prop := q.Pairwise (fun a b => a.due ≤ b.due)

def total (qs : List (List Flight)) : Nat := (qs.map List.length).sum

structure Net.Ok (n : Net) : Prop where
  fates : ∀ f ∈ n.fates, f.ok = true
  srt : ∀ q ∈ n.queues, sorted q
  wait : n.waiting = total n.queues
  low : n.waiting ≤ 4000
  houses : 1 ≤ n.queues.length ∧ n.queues.length ≤ 12
  time : n.time ≤ 100000

theorem len_le_total {q : List Flight} : ∀ {qs : List (List Flight)}, q ∈ qs → q.length ≤ total qs
  | [], h => by cases h
  | a :: qs, h => by
    simp only [total, List.map_cons, List.sum_cons]
    rcases List.mem_cons.1 h with rfl | h
    · omega
    · have := len_le_total h
      unfold total at this
      omega
theorem one_ok : one.ok = true := rfl
theorem Fate.many_le {f : Fate} (h : f.ok = true) : f.many ≤ 9 := by
  unfold Fate.ok at h; unfold Fate.many
  cases hl : f.lost <;> simp [hl] at h ⊢
  omega
theorem headD_ok {l : List Fate} (h : ∀ f ∈ l, f.ok = true) : (l.headD one).ok = true := by
  cases l with
  | nil => rfl
  | cons a l => exact h a (by simp)

theorem sorted_take_le {q : List Flight} {t : Int} {k : Nat} (hs : sorted q) (hk : k ≤ q.length) (h1 : 0 < k → ∀ x, q[k - 1]? = some x → x.due ≤ t) (h2 : ∀ j x, k ≤ j → q[j]? = some x → t < x.due) :
    q.takeWhile (fun f => decide (f.due ≤ t)) = q.take k ∧ q.dropWhile (fun f => decide (f.due ≤ t)) = q.drop k := by
  have hle : ∀ x ∈ q.take k, x.due ≤ t := by
    intro x hx
    obtain ⟨j, hj, rfl⟩ := List.getElem_of_mem hx
    rw [List.length_take] at hj
    have hk0 : 0 < k := by omega
    have hlast : q[k - 1]? = some q[k - 1] := List.getElem?_eq_getElem (by omega)
    have h3 := h1 hk0 _ hlast
    rw [List.getElem_take]
    by_cases hjk : j = k - 1
    · subst hjk; exact h3
    · have := (List.pairwise_iff_getElem.1 hs) j (k - 1) (by omega) (by omega) (by omega)
      omega
  have hgt : ∀ x ∈ q.drop k, ¬ (x.due ≤ t) := by
    intro x hx
    obtain ⟨j, hj, rfl⟩ := List.getElem_of_mem hx
    rw [List.length_drop] at hj
    rw [List.getElem_drop]
    have := h2 (k + j) _ (by omega) (List.getElem?_eq_getElem (by omega))
    omega
  have hq : q = q.take k ++ q.drop k := (List.take_append_drop k q).symm
  have h3 : ∀ l r : List Flight, (∀ x ∈ l, x.due ≤ t) → (∀ x ∈ r, ¬ x.due ≤ t) → (l ++ r).takeWhile (fun f => decide (f.due ≤ t)) = l ∧ (l ++ r).dropWhile (fun f => decide (f.due ≤ t)) = r := by
    intro l r hl hr
    induction l with
    | nil =>
      cases r with
      | nil => exact ⟨rfl, rfl⟩
      | cons a r =>
        have := hr a (by simp)
        simp [this]
    | cons a l ih =>
      have ha := hl a (by simp)
      have := ih (fun x hx => hl x (by simp [hx]))
      simp [ha, this.1, this.2]
  have := h3 (q.take k) (q.drop k) hle hgt
  rw [← hq] at this
  exact this

end Go.Proofs.Ytfpiiehdmdmoeaa
