/- Handlers: the plain law of LockFree: the invariant, a step of a handler, that one can always go on, that no stripe is held by two. No program in sight but the table's own answers. -/
import Derived.Test.YtgklgicfgpemgaaLkTab
namespace Go.Proofs.Ytgklgicfgpemgaa.Lk
open Go.RowKit
set_option linter.unusedVariables false
structure HandM where
  set : List Nat
  pos : Nat
  tk : List Nat

/-- One call of a handler's program: did it go on; was all right; the table; the handler. -/
def stepM (xs : List Lane) (h : HandM) : (Bool × Bool) × List Lane × HandM :=
  let n := h.set.length
  let k := h.pos
  if k < 2 * n then
    let s : Nat := h.set.getD (k / 2) 0
    if k % 2 = 0 then
      ((true, (ticketF xs s).1.2 == 0), (ticketF xs s).2, { h with pos := k + 1, tk := h.tk ++ [(ticketF xs s).1.1.toNat] })
    else if servedF xs s (h.tk.getD (k / 2) 0 : Nat) = true then ((true, true), xs, { h with pos := k + 1 }) else ((false, true), xs, h)
  else if k < 3 * n then
    let s : Nat := h.set.getD (k - 2 * n) 0
    let t : Nat := h.tk.getD (k - 2 * n) 0
    ((true, (turnF 0 seqUp xs s t).1 == 0 && (Int.tmod (seqF xs s) 2 == 0 && seqF (turnF 0 seqUp xs s t).2 s == wrap64 (seqF xs s + 1))), (turnF 0 seqUp xs s t).2, { h with pos := k + 1 })
  else if k < 4 * n then
    let s : Nat := h.set.getD (k - 3 * n) 0
    let t : Nat := h.tk.getD (k - 3 * n) 0
    ((true, (turnF 1 seqUp xs s t).1 == 0 && (Int.tmod (seqF xs s) 2 == 1 && seqF (turnF 1 seqUp xs s t).2 s == wrap64 (seqF xs s + 1))), (turnF 1 seqUp xs s t).2, { h with pos := k + 1 })
  else if k < 5 * n then
    let s : Nat := h.set.getD (k - 4 * n) 0
    let t : Nat := h.tk.getD (k - 4 * n) 0
    ((true, (turnF 0 leaveUp xs s t).1 == 0), (turnF 0 leaveUp xs s t).2, { h with pos := k + 1 })
  else ((false, true), xs, h)

def doneM (h : HandM) : Bool := decide (h.pos ≥ 5 * h.set.length)
def insideM (h : HandM) (i : Nat) : Bool := decide (h.pos > 2 * i + 1) && decide (h.pos ≤ 4 * h.set.length + i)
def took (s : Nat) (h : HandM) : Nat := (h.set.take ((h.pos + 1) / 2)).count s
def ph (n i k : Nat) : Nat := (if 2 * n + i < k then 1 else 0) + (if 3 * n + i < k then 1 else 0)

structure WF (N : Nat) (h : HandM) : Prop where
  rise : h.set.Pairwise (· < ·)
  lt : ∀ s ∈ h.set, s < N
  pos : h.pos ≤ 5 * h.set.length
  tk : h.tk.length = min h.set.length ((h.pos + 1) / 2)

/-- A ticket of the stripe of lane x: whose it is. -/
structure Tick (x : Lane) (s t : Nat) (h : HandM) (i : Nat) : Prop where
  at_ : h.set[i]? = some s
  took : 2 * i < h.pos
  tk : h.tk[i]? = some t
  left : (4 * h.set.length + i < h.pos) ↔ (t : Int) < x.left
  served : 2 * i + 1 < h.pos → (t : Int) ≤ x.left
  seq : (t : Int) = x.left → x.seq = 2 * x.left + ph h.set.length i h.pos

/-- A stripe: who has its tickets. -/
structure LaneOk (x : Lane) (s : Nat) (hs : List HandM) (q : List Nat) (c : Nat) : Prop where
  given : x.given = q.length
  left0 : 0 ≤ x.left
  left : x.left ≤ q.length
  few : q.length ≤ c
  nodup : q.Nodup
  tick : ∀ t j, q[t]? = some j → ∃ h i, hs[j]? = some h ∧ Tick x s t h i
  has : ∀ j h i, hs[j]? = some h → h.set[i]? = some s → 2 * i < h.pos → j ∈ q
  seq : x.left = q.length → x.seq = 2 * x.left
  count : q.length = (hs.map (took s)).sum

structure Inv (N : Nat) (xs : List Lane) (hs : List HandM) (Q : Nat → List Nat) (c : Nat) : Prop where
  len : xs.length = N
  small : c < 100000
  wf : ∀ h ∈ hs, WF N h
  lane : ∀ s, s < N → LaneOk (xs.getD s L0) s hs (Q s) c
  sum : (hs.map (·.pos)).sum = c

theorem rise_inj : ∀ {l : List Nat}, l.Pairwise (· < ·) → ∀ {i j s : Nat}, l[i]? = some s → l[j]? = some s → i = j
  | _ :: _, h, 0, 0, _, _, _ => rfl
  | x :: l, h, 0, j + 1, s, hi, hj => by
    simp at hi hj
    have := (List.pairwise_cons.1 h).1 s (List.mem_of_getElem? hj)
    omega
  | x :: l, h, i + 1, 0, s, hi, hj => by
    simp at hi hj
    have := (List.pairwise_cons.1 h).1 s (List.mem_of_getElem? hi)
    omega
  | x :: l, h, i + 1, j + 1, s, hi, hj => by
    simp at hi hj
    rw [rise_inj (List.pairwise_cons.1 h).2 hi hj]
theorem rise_lt : ∀ {l : List Nat}, l.Pairwise (· < ·) → ∀ {i j s t : Nat}, l[i]? = some s → l[j]? = some t → i < j → s < t
  | x :: l, h, 0, j + 1, s, t, hi, hj, _ => by
    simp at hi hj
    have := (List.pairwise_cons.1 h).1 t (List.mem_of_getElem? hj)
    omega
  | x :: l, h, i + 1, j + 1, s, t, hi, hj, hlt => by
    simp at hi hj
    exact rise_lt (List.pairwise_cons.1 h).2 hi hj (by omega)
theorem nodup_inj {q : List Nat} (h : q.Nodup) {i j s : Nat} (hi : q[i]? = some s) (hj : q[j]? = some s) : i = j := by
  obtain ⟨h1, e1⟩ := List.getElem?_eq_some_iff.1 hi
  obtain ⟨h2, e2⟩ := List.getElem?_eq_some_iff.1 hj
  have hp := List.pairwise_iff_getElem.1 h
  rcases Nat.lt_trichotomy i j with hlt | he | hlt
  · exact absurd (e1.trans e2.symm) (hp i j h1 h2 hlt)
  · exact he
  · exact absurd (e2.trans e1.symm) (hp j i h2 h1 hlt)
theorem sum_set {α : Type} (f : α → Nat) : ∀ (l : List α) (j : Nat) (x y : α), l[j]? = some x → ((l.set j y).map f).sum + f x = (l.map f).sum + f y
  | z :: l, 0, x, y, h => by
    simp at h
    subst h
    simp
    omega
  | z :: l, j + 1, x, y, h => by
    simp at h
    have := sum_set f l j x y h
    simp only [List.set_cons_succ, List.map_cons, List.sum_cons]
    omega
  | [], j, x, y, h => by simp at h

/-! The five kinds of calls, under the invariant. -/
section
variable {N : Nat} {xs : List Lane} {hs : List HandM} {Q : Nat → List Nat} {c : Nat}

theorem Inv.ticket (I : Inv N xs hs Q c) {s : Nat} (hs' : s < N) : ticketF xs s = ((((Q s).length : Int), (0 : Int)), xs.set s { xs.getD s L0 with given := (Q s).length + 1 }) := by
  have L := I.lane s hs'
  have h := I.len
  have hc := I.small
  have hf := L.few
  unfold ticketF
  rw [if_pos (show laneAt xs (s : Int) from ⟨by omega, by omega⟩), Int.toNat_natCast, L.given, if_neg (by omega)]

theorem Inv.served (I : Inv N xs hs Q c) {s t : Nat} (hs' : s < N) : servedF xs s t = (decide ((xs.getD s L0).left < (Q s).length) && decide ((t : Int) = (xs.getD s L0).left)) := by
  have L := I.lane s hs'
  have h := I.len
  unfold servedF
  rw [decide_eq_true (show laneAt xs (s : Int) from ⟨by omega, by omega⟩), Bool.true_and, Int.toNat_natCast, L.given]
  rfl

theorem Inv.seqF (I : Inv N xs hs Q c) {s : Nat} (hs' : s < N) : seqF xs s = (xs.getD s L0).seq := by
  have h := I.len
  unfold Lk.seqF
  rw [if_pos (show laneAt xs (s : Int) from ⟨by omega, by omega⟩), Int.toNat_natCast]

theorem turn_ok {odd : Int} {up : Lane → Lane} {s t : Nat} (hl : s < xs.length) (h1 : (xs.getD s L0).left < (xs.getD s L0).given) (h2 : (t : Int) = (xs.getD s L0).left) (h3 : Int.tmod (xs.getD s L0).seq 2 = odd) :
    turnF odd up xs s t = (0, xs.set s (up (xs.getD s L0))) := by
  unfold turnF
  rw [if_pos (show laneAt xs (s : Int) from ⟨by omega, by omega⟩), Int.toNat_natCast, if_pos (by simp; exact ⟨h1, h2⟩), if_pos h3]
theorem getD_set (xs : List Lane) (s : Nat) (x : Lane) (h : s < xs.length) : (xs.set s x).getD s L0 = x := by
  rw [List.getD_eq_getElem?_getD, List.getElem?_set_self h]
  rfl
theorem getD_set_ne (xs : List Lane) (s s' : Nat) (x : Lane) (h : s ≠ s') : (xs.set s x).getD s' L0 = xs.getD s' L0 := by
  rw [List.getD_eq_getElem?_getD, List.getElem?_set_ne h, ← List.getD_eq_getElem?_getD]
end

theorem set_get {hs : List HandM} {j0 : Nat} {h h' : HandM} (hj : hs[j0]? = some h) (j : Nat) : (hs.set j0 h')[j]? = if j = j0 then some h' else hs[j]? := by
  have hl := (List.getElem?_eq_some_iff.1 hj).1
  by_cases e : j = j0
  · rw [if_pos e, e, List.getElem?_set_self hl]
  · rw [if_neg e, List.getElem?_set_ne (fun z => e z.symm)]

theorem LaneOk.step {x x' : Lane} {s : Nat} {hs : List HandM} {q : List Nat} {c j0 : Nat} {h h' : HandM} (L : LaneOk x s hs q c) (hj : hs[j0]? = some h) (hset : h'.set = h.set)
    (hg : x'.given = x.given) (h0 : 0 ≤ x'.left) (hle : x'.left ≤ q.length) (hpos : ∀ i, h.set[i]? = some s → (2 * i < h'.pos ↔ 2 * i < h.pos)) (hcount : took s h' = took s h)
    (hown : ∀ t i, q[t]? = some j0 → Tick x s t h i → Tick x' s t h' i)
    (hoth : ∀ t j h2 i, j ≠ j0 → q[t]? = some j → hs[j]? = some h2 → Tick x s t h2 i → Tick x' s t h2 i)
    (hseq : x'.left = q.length → x'.seq = 2 * x'.left) : LaneOk x' s (hs.set j0 h') q (c + 1) where
  given := hg.trans L.given
  left0 := h0
  left := hle
  few := Nat.le_succ_of_le L.few
  nodup := L.nodup
  tick := by
    intro t j hq
    obtain ⟨h2, i, e2, T⟩ := L.tick t j hq
    by_cases e : j = j0
    · subst e
      rw [hj] at e2
      cases e2
      exact ⟨h', i, by rw [set_get hj, if_pos rfl], hown t i hq T⟩
    · exact ⟨h2, i, by rw [set_get hj, if_neg e, e2], hoth t j h2 i e hq e2 T⟩
  has := by
    intro j h2 i e2 hi hlt
    rw [set_get hj] at e2
    split at e2
    · rename_i e
      cases e2
      subst e
      rw [hset] at hi
      exact L.has j h i hj hi ((hpos i hi).1 hlt)
    · exact L.has j h2 i e2 hi hlt
  seq := hseq
  count := by
    have := sum_set (took s) hs j0 h h' hj
    have := L.count
    omega

theorem took_succ {s : Nat} {h h' : HandM} {i : Nat} (hset : h'.set = h.set) (hi : h.set[i]? = some s) (hp : h.pos = 2 * i) (hp' : h'.pos = 2 * i + 1) : took s h' = took s h + 1 := by
  unfold took
  obtain ⟨hl, e⟩ := List.getElem?_eq_some_iff.1 hi
  rw [hset, hp, hp', show (2 * i + 1 + 1) / 2 = i + 1 by omega, show (2 * i + 1) / 2 = i by omega, List.take_succ_eq_append_getElem hl, List.count_append, e]
  simp
theorem took_other {s : Nat} {h h' : HandM} {i s0 : Nat} (hset : h'.set = h.set) (hi : h.set[i]? = some s0) (hne : s0 ≠ s) (hp : h.pos = 2 * i) (hp' : h'.pos = 2 * i + 1) : took s h' = took s h := by
  unfold took
  obtain ⟨hl, e⟩ := List.getElem?_eq_some_iff.1 hi
  rw [hset, hp, hp', show (2 * i + 1 + 1) / 2 = i + 1 by omega, show (2 * i + 1) / 2 = i by omega, List.take_succ_eq_append_getElem hl, List.count_append, e]
  simp [hne]
theorem took_odd {s : Nat} {h h' : HandM} {i : Nat} (hset : h'.set = h.set) (hp : h.pos = 2 * i + 1) (hp' : h'.pos = 2 * i + 1 + 1) : took s h' = took s h := by
  unfold took
  rw [hset, hp, hp', show (2 * i + 1 + 1 + 1) / 2 = i + 1 by omega, show (2 * i + 1 + 1) / 2 = i + 1 by omega]
theorem took_late {s : Nat} {h h' : HandM} (hset : h'.set = h.set) (hp : 2 * h.set.length ≤ h.pos) (hp' : h'.pos = h.pos + 1) : took s h' = took s h := by
  unfold took
  rw [hset, hp', List.take_of_length_le (by omega), List.take_of_length_le (by omega)]

/-- A stripe that a call has nothing to do with. -/
theorem LaneOk.aside {x : Lane} {s s0 : Nat} {hs : List HandM} {q : List Nat} {c j0 i0 : Nat} {h h' : HandM} (L : LaneOk x s hs q c) (hj : hs[j0]? = some h) (hset : h'.set = h.set) (hp' : h'.pos = h.pos + 1)
    (hi0 : h.set[i0]? = some s0) (hne : s0 ≠ s) (htk : ∀ i t : Nat, h.tk[i]? = some t → h'.tk[i]? = some t)
    (hk : h.pos = 2 * i0 ∨ h.pos = 2 * i0 + 1 ∨ h.pos = 2 * h.set.length + i0 ∨ h.pos = 3 * h.set.length + i0 ∨ h.pos = 4 * h.set.length + i0) : LaneOk x s (hs.set j0 h') q (c + 1) := by
  have hl0 := (List.getElem?_eq_some_iff.1 hi0).1
  have hii : ∀ i, h.set[i]? = some s → i ≠ i0 ∧ i < h.set.length := fun i hi => ⟨fun e => hne (by rw [e, hi0] at hi; exact Option.some.inj hi), (List.getElem?_eq_some_iff.1 hi).1⟩
  refine L.step hj hset rfl L.left0 L.left ?_ ?_ ?_ (fun _ _ _ _ _ _ _ T => T) L.seq
  · intro i hi
    have := hii i hi
    omega
  · rcases hk with hk | hk | hk | hk | hk
    · exact took_other hset hi0 hne hk (by omega)
    · exact took_odd hset hk (by omega)
    all_goals exact took_late hset (by omega) hp'
  · intro t i _ T
    have := hii i T.at_
    refine ⟨by rw [hset]; exact T.at_, by have := T.took; omega, htk _ _ T.tk, ?_, ?_, ?_⟩
    · rw [← T.left, hset]
      omega
    · intro hlt
      exact T.served (by omega)
    · intro e
      rw [T.seq e, hset]
      unfold ph
      have e1 : (2 * h.set.length + i < h'.pos) ↔ (2 * h.set.length + i < h.pos) := by omega
      have e2 : (3 * h.set.length + i < h'.pos) ↔ (3 * h.set.length + i < h.pos) := by omega
      simp only [e1, e2]

theorem tmod_even (n : Int) (h : 0 ≤ n) : Int.tmod (2 * n) 2 = 0 := by
  rw [Int.tmod_eq_emod_of_nonneg (by omega)]
  omega
theorem tmod_odd (n : Int) (h : 0 ≤ n) : Int.tmod (2 * n + 1) 2 = 1 := by
  rw [Int.tmod_eq_emod_of_nonneg (by omega)]
  omega
theorem wrap_small (n : Int) (h0 : 0 ≤ n) (h : n < 1000000000) : wrap64 n = n := by
  unfold wrap64
  omega

/-- The new state is good. -/
theorem Inv.next {N : Nat} {xs : List Lane} {hs : List HandM} {Q : Nat → List Nat} {c j0 : Nat} {h h' : HandM} {i0 s0 : Nat} {x' : Lane} {q' : List Nat} (I : Inv N xs hs Q c) (hj : hs[j0]? = some h) (hc : c + 1 < 100000)
    (hset : h'.set = h.set) (hp' : h'.pos = h.pos + 1) (hi0 : h.set[i0]? = some s0) (htk : ∀ i t : Nat, h.tk[i]? = some t → h'.tk[i]? = some t) (htl : h'.tk.length = min h.set.length ((h.pos + 2) / 2))
    (hk : h.pos = 2 * i0 ∨ h.pos = 2 * i0 + 1 ∨ h.pos = 2 * h.set.length + i0 ∨ h.pos = 3 * h.set.length + i0 ∨ h.pos = 4 * h.set.length + i0)
    (hs0 : s0 < N) (hnew : LaneOk x' s0 (hs.set j0 h') q' (c + 1)) :
    Inv N (xs.set s0 x') (hs.set j0 h') (fun s => if s = s0 then q' else Q s) (c + 1) where
  len := by rw [List.length_set]; exact I.len
  small := hc
  wf := by
    have W := I.wf h (List.mem_of_getElem? hj)
    have hl0 := (List.getElem?_eq_some_iff.1 hi0).1
    intro y hy
    rcases List.mem_or_eq_of_mem_set hy with hy | rfl
    · exact I.wf y hy
    · exact ⟨by rw [hset]; exact W.rise, by rw [hset]; exact W.lt, by rw [hset]; omega, by rw [htl, hset, hp']⟩
  lane := by
    intro s hs'
    have hlen := I.len
    have W := I.wf h (List.mem_of_getElem? hj)
    by_cases e : s = s0
    · subst e
      rw [getD_set _ _ _ (by omega), if_pos rfl]
      exact hnew
    · rw [getD_set_ne _ _ _ _ (fun z => e z.symm), if_neg e]
      exact (I.lane s hs').aside hj hset hp' hi0 (fun z : s0 = s => e z.symm) htk hk
  sum := by
    have := sum_set (·.pos) hs j0 h h' hj
    have := I.sum
    omega

theorem set_same (xs : List Lane) (s : Nat) : xs.set s (xs.getD s L0) = xs := by
  apply List.ext_getElem?
  intro i
  by_cases e : s = i
  · subst e
    rcases Nat.lt_or_ge s xs.length with hl | hl
    · rw [List.getElem?_set_self hl, List.getD_eq_getElem?_getD, List.getElem?_eq_getElem hl]
      rfl
    · rw [List.getElem?_eq_none (by rw [List.length_set]; exact hl), List.getElem?_eq_none hl]
  · rw [List.getElem?_set_ne e]

/-- The ticket of the active stripe of a handler that has it. -/
theorem Inv.mine {N : Nat} {xs : List Lane} {hs : List HandM} {Q : Nat → List Nat} {c j0 : Nat} {h : HandM} {i0 s0 : Nat} (I : Inv N xs hs Q c) (hj : hs[j0]? = some h) (hi0 : h.set[i0]? = some s0) (hk : 2 * i0 < h.pos) :
    ∃ t : Nat, (Q s0)[t]? = some j0 ∧ Tick (xs.getD s0 L0) s0 t h i0 ∧ h.tk.getD i0 0 = t := by
  have W := I.wf h (List.mem_of_getElem? hj)
  have L := I.lane s0 (W.lt s0 (List.mem_of_getElem? hi0))
  obtain ⟨t, hl, e⟩ := List.mem_iff_getElem.1 (L.has j0 h i0 hj hi0 hk)
  have hq : (Q s0)[t]? = some j0 := by rw [List.getElem?_eq_getElem hl, e]
  obtain ⟨h2, i, e2, T⟩ := L.tick t j0 hq
  rw [hj] at e2
  cases e2
  have := rise_inj W.rise T.at_ hi0
  subst this
  exact ⟨t, hq, T, by rw [List.getD_eq_getElem?_getD, T.tk]; rfl⟩

theorem ph0 {n i k : Nat} (h : k ≤ 2 * n) : ph n i k = 0 := by
  unfold ph
  rw [if_neg (by omega), if_neg (by omega)]
theorem ph1 {n i k : Nat} (h : 2 * n + i < k) (h' : k ≤ 3 * n + i) : ph n i k = 1 := by
  unfold ph
  rw [if_pos (by omega), if_neg (by omega)]
theorem ph2 {n i k : Nat} (h : 3 * n + i < k) : ph n i k = 2 := by
  unfold ph
  rw [if_pos (by omega), if_pos (by omega)]

theorem LaneOk.take_ {x : Lane} {s0 : Nat} {hs : List HandM} {q : List Nat} {c j0 : Nat} {h h' : HandM} {i0 : Nat} (L : LaneOk x s0 hs q c) (hj : hs[j0]? = some h) (hr : h.set.Pairwise (· < ·)) (hset : h'.set = h.set) (hp' : h'.pos = h.pos + 1)
    (hi0 : h.set[i0]? = some s0) (hk : h.pos = 2 * i0) (hlen : h.tk.length = i0) (htk : h'.tk = h.tk ++ [q.length]) : LaneOk ⟨q.length + 1, x.left, x.seq⟩ s0 (hs.set j0 h') (q ++ [j0]) (c + 1) := by
  have hl0 := (List.getElem?_eq_some_iff.1 hi0).1
  have hnot : j0 ∉ q := by
    intro hm
    obtain ⟨t, hl, e⟩ := List.mem_iff_getElem.1 hm
    obtain ⟨h2, i, e2, T⟩ := L.tick t j0 (by rw [List.getElem?_eq_getElem hl, e])
    rw [hj] at e2
    cases e2
    have := rise_inj hr T.at_ hi0
    have := T.took
    omega
  have hsum := sum_set (took s0) hs j0 h h' hj
  rw [took_succ (h := h) (h' := h') (i := i0) hset hi0 hk (by omega)] at hsum
  have hlq : (q ++ [j0]).length = q.length + 1 := by simp
  have hl := L.left
  refine ⟨by rw [hlq]; rfl, L.left0, by rw [hlq]; show x.left ≤ _; omega, by have := L.few; rw [hlq]; omega, ?_, ?_, ?_, ?_, ?_⟩
  · rw [List.nodup_append]
    refine ⟨L.nodup, by simp, ?_⟩
    intro a ha b hb e
    simp at hb
    rw [e, hb] at ha
    exact hnot ha
  · intro t j hq
    rcases Nat.lt_or_ge t q.length with hlt | hge
    · rw [List.getElem?_append_left hlt] at hq
      obtain ⟨h2, i, e2, T⟩ := L.tick t j hq
      have hne : j ≠ j0 := fun e => hnot (e ▸ List.mem_of_getElem? hq)
      exact ⟨h2, i, by rw [set_get hj, if_neg hne, e2], ⟨T.at_, T.took, T.tk, T.left, T.served, T.seq⟩⟩
    · have ht : t = q.length := by
        rcases Nat.lt_or_ge t (q ++ [j0]).length with h0 | h0
        · omega
        · rw [List.getElem?_eq_none h0] at hq
          cases hq
      subst ht
      rw [List.getElem?_append_right hge, Nat.sub_self] at hq
      have hjj : j0 = j := by simpa using hq
      subst hjj
      refine ⟨h', i0, by rw [set_get hj, if_pos rfl], ⟨by rw [hset]; exact hi0, by omega, ?_, ?_, ?_, ?_⟩⟩
      · rw [htk, List.getElem?_append_right (by omega), show i0 - h.tk.length = 0 by omega]
        rfl
      · rw [hset]
        show _ ↔ (q.length : Int) < x.left
        omega
      · omega
      · intro e
        have e' : x.left = q.length := e.symm
        show x.seq = _
        rw [L.seq e', ph0 (by rw [hset]; omega)]
        show _ = 2 * x.left + _
        omega
  · intro j h2 i e2 hi hlt
    rw [set_get hj] at e2
    split at e2
    · rename_i e
      subst e
      simp
    · exact List.mem_append_left _ (L.has j h2 i e2 hi hlt)
  · intro e
    rw [hlq] at e
    have e' : x.left = ((q.length + 1 : Nat) : Int) := e
    omega
  · have := L.count
    rw [hlq]
    omega

/-- A ticket is taken. -/
theorem Inv.take_ {N : Nat} {xs : List Lane} {hs : List HandM} {Q : Nat → List Nat} {c j0 : Nat} {h : HandM} {i0 s0 : Nat} (I : Inv N xs hs Q c) (hj : hs[j0]? = some h) (hc : c + 1 < 100000) (hi0 : h.set[i0]? = some s0) (hk : h.pos = 2 * i0) :
    ∃ Q', Inv N (xs.set s0 ⟨(Q s0).length + 1, (xs.getD s0 L0).left, (xs.getD s0 L0).seq⟩) (hs.set j0 { h with pos := h.pos + 1, tk := h.tk ++ [(Q s0).length] }) Q' (c + 1) := by
  have W := I.wf h (List.mem_of_getElem? hj)
  have hl0 := (List.getElem?_eq_some_iff.1 hi0).1
  have htl := W.tk
  have hN := W.lt s0 (List.mem_of_getElem? hi0)
  refine ⟨_, I.next hj hc (i0 := i0) rfl rfl hi0 ?_ (by simp only [List.length_append, List.length_cons, List.length_nil]; omega) (.inl hk) hN ((I.lane s0 hN).take_ hj W.rise rfl rfl hi0 hk (by omega) rfl)⟩
  intro i t hi
  have := (List.getElem?_eq_some_iff.1 hi).1
  show (h.tk ++ _)[i]? = _
  rw [List.getElem?_append_left this]
  exact hi

/-- A handler is served. -/
theorem Inv.serve {N : Nat} {xs : List Lane} {hs : List HandM} {Q : Nat → List Nat} {c j0 : Nat} {h : HandM} {i0 s0 : Nat} (I : Inv N xs hs Q c) (hj : hs[j0]? = some h) (hc : c + 1 < 100000) (hi0 : h.set[i0]? = some s0) (hk : h.pos = 2 * i0 + 1)
    (hv : ((h.tk.getD i0 0 : Nat) : Int) = (xs.getD s0 L0).left) : ∃ Q', Inv N xs (hs.set j0 { h with pos := h.pos + 1 }) Q' (c + 1) := by
  have W := I.wf h (List.mem_of_getElem? hj)
  have hl0 := (List.getElem?_eq_some_iff.1 hi0).1
  have htl := W.tk
  have hN := W.lt s0 (List.mem_of_getElem? hi0)
  have L := I.lane s0 hN
  obtain ⟨t, hq, T, et⟩ := I.mine hj hi0 (by omega)
  have := I.next (h' := { h with pos := h.pos + 1 }) (x' := xs.getD s0 L0) (q' := Q s0) hj hc (i0 := i0) rfl rfl hi0 (fun _ _ z => z) (by show h.tk.length = _; omega) (.inr (.inl hk)) hN ?_
  · rw [set_same] at this
    exact ⟨_, this⟩
  · refine L.step hj rfl rfl L.left0 L.left ?_ (took_odd rfl hk (by show h.pos + 1 = _; omega)) ?_ (fun _ _ _ _ _ _ _ z => z) L.seq
    · intro i hi
      have := rise_inj W.rise hi hi0
      show 2 * i < h.pos + 1 ↔ _
      omega
    · intro t' i hq' T'
      have e1 := nodup_inj L.nodup hq hq'
      have e2 := rise_inj W.rise T'.at_ hi0
      subst e1
      subst e2
      refine ⟨T.at_, by show _ < h.pos + 1; omega, T.tk, ?_, fun _ => by rw [← hv, et]; exact Int.le_refl _, ?_⟩
      · rw [← T.left]
        show 4 * h.set.length + i < h.pos + 1 ↔ _
        omega
      · intro e
        rw [T.seq e]
        show _ = 2 * (xs.getD s0 L0).left + (ph h.set.length i (h.pos + 1) : Nat)
        rw [ph0 (by omega), ph0 (by omega)]

/-- A handler that holds a stripe does what it may: Odd, Even, Leave. -/
theorem Inv.holds {N : Nat} {xs : List Lane} {hs : List HandM} {Q : Nat → List Nat} {c j0 : Nat} {h : HandM} {i0 s0 : Nat} (I : Inv N xs hs Q c) (hj : hs[j0]? = some h) (hi0 : h.set[i0]? = some s0) (hk : 2 * h.set.length ≤ h.pos) (hk' : h.pos ≤ 4 * h.set.length + i0) :
    ((h.tk.getD i0 0 : Nat) : Int) = (xs.getD s0 L0).left ∧ (xs.getD s0 L0).left < (xs.getD s0 L0).given ∧ (xs.getD s0 L0).seq = 2 * (xs.getD s0 L0).left + ph h.set.length i0 h.pos ∧ (xs.getD s0 L0).left < 100000 ∧ 0 ≤ (xs.getD s0 L0).left ∧ (Q s0)[h.tk.getD i0 0]? = some j0 := by
  have W := I.wf h (List.mem_of_getElem? hj)
  have hl0 := (List.getElem?_eq_some_iff.1 hi0).1
  have hN := W.lt s0 (List.mem_of_getElem? hi0)
  have L := I.lane s0 hN
  obtain ⟨t, hq, T, et⟩ := I.mine hj hi0 (by omega)
  have h1 := T.served (by omega)
  have h2 := T.left
  have h3 := (List.getElem?_eq_some_iff.1 hq).1
  have h4 := L.given
  have h5 := L.few
  have h6 := I.small
  have e : (t : Int) = (xs.getD s0 L0).left := by omega
  exact ⟨by rw [et]; exact e, by omega, T.seq e, by omega, L.left0, by rw [et]; exact hq⟩

/-- Odd or Even. -/
theorem Inv.turns {N : Nat} {xs : List Lane} {hs : List HandM} {Q : Nat → List Nat} {c j0 : Nat} {h : HandM} {i0 s0 : Nat} (I : Inv N xs hs Q c) (hj : hs[j0]? = some h) (hc : c + 1 < 100000) (hi0 : h.set[i0]? = some s0)
    (hk : h.pos = 2 * h.set.length + i0 ∨ h.pos = 3 * h.set.length + i0) :
    ∃ Q', Inv N (xs.set s0 (seqUp (xs.getD s0 L0))) (hs.set j0 { h with pos := h.pos + 1 }) Q' (c + 1) := by
  have W := I.wf h (List.mem_of_getElem? hj)
  have hl0 := (List.getElem?_eq_some_iff.1 hi0).1
  have htl := W.tk
  have hN := W.lt s0 (List.mem_of_getElem? hi0)
  have L := I.lane s0 hN
  obtain ⟨v1, v2, v3, v4, v5, v6⟩ := I.holds hj hi0 (by omega) (by omega)
  have hs' : seqUp (xs.getD s0 L0) = ⟨(xs.getD s0 L0).given, (xs.getD s0 L0).left, (xs.getD s0 L0).seq + 1⟩ := by
    unfold seqUp
    rw [wrap_small _ (by omega) (by unfold ph at v3; split at v3 <;> split at v3 <;> omega)]
  refine ⟨_, I.next (h' := { h with pos := h.pos + 1 }) (q' := Q s0) hj hc (i0 := i0) rfl rfl hi0 (fun _ _ z => z) (by show h.tk.length = _; omega) (by omega) hN ?_⟩
  rw [hs']
  have e1 := L.given
  have e2 := L.seq
  have e3 := L.left
  refine L.step hj rfl rfl L.left0 L.left ?_ (took_late rfl (by omega) rfl) ?_ ?_ ?_
  · intro i hi
    have := rise_inj W.rise hi hi0
    show 2 * i < h.pos + 1 ↔ _
    omega
  · intro t' i hq' T'
    have ei := rise_inj W.rise T'.at_ hi0
    subst ei
    refine ⟨T'.at_, by show _ < h.pos + 1; omega, T'.tk, ?_, ?_, ?_⟩
    · show 4 * h.set.length + i < h.pos + 1 ↔ (t' : Int) < (xs.getD s0 L0).left
      rw [← T'.left]
      omega
    · intro _
      exact T'.served (by omega)
    · intro _
      show (xs.getD s0 L0).seq + 1 = 2 * (xs.getD s0 L0).left + (ph h.set.length i (h.pos + 1) : Nat)
      rw [v3]
      rcases hk with hk | hk
      · rw [show ph h.set.length i h.pos = 0 by unfold ph; rw [if_neg (by omega), if_neg (by omega)], ph1 (by omega) (by omega)]
        omega
      · rw [ph1 (by omega) (by omega), ph2 (by omega)]
        omega
  · intro t' j h2 i hne hq' _ T'
    have hnt : (t' : Int) ≠ (xs.getD s0 L0).left := by
      intro e
      have : t' = h.tk.getD i0 0 := by omega
      rw [this, v6] at hq'
      exact hne (Option.some.inj hq').symm
    exact ⟨T'.at_, T'.took, T'.tk, T'.left, T'.served, fun e => absurd e hnt⟩
  · show (xs.getD s0 L0).left = _ → _
    omega

/-- Leave. -/
theorem Inv.leaves {N : Nat} {xs : List Lane} {hs : List HandM} {Q : Nat → List Nat} {c j0 : Nat} {h : HandM} {i0 s0 : Nat} (I : Inv N xs hs Q c) (hj : hs[j0]? = some h) (hc : c + 1 < 100000) (hi0 : h.set[i0]? = some s0)
    (hk : h.pos = 4 * h.set.length + i0) :
    ∃ Q', Inv N (xs.set s0 (leaveUp (xs.getD s0 L0))) (hs.set j0 { h with pos := h.pos + 1 }) Q' (c + 1) := by
  have W := I.wf h (List.mem_of_getElem? hj)
  have hl0 := (List.getElem?_eq_some_iff.1 hi0).1
  have htl := W.tk
  have hN := W.lt s0 (List.mem_of_getElem? hi0)
  have L := I.lane s0 hN
  obtain ⟨v1, v2, v3, v4, v5, v6⟩ := I.holds hj hi0 (by omega) (by omega)
  have hs' : leaveUp (xs.getD s0 L0) = ⟨(xs.getD s0 L0).given, (xs.getD s0 L0).left + 1, (xs.getD s0 L0).seq⟩ := by
    unfold leaveUp
    rw [wrap_small _ (by omega) (by omega)]
  refine ⟨_, I.next (h' := { h with pos := h.pos + 1 }) (q' := Q s0) hj hc (i0 := i0) rfl rfl hi0 (fun _ _ z => z) (by show h.tk.length = _; omega) (by omega) hN ?_⟩
  rw [hs']
  have e1 := L.given
  have e2 := L.seq
  have e3 := L.left
  rw [ph2 (by omega)] at v3
  have hnt : ∀ t' j : Nat, j ≠ j0 → (Q s0)[t']? = some j → (t' : Int) ≠ (xs.getD s0 L0).left := by
    intro t' j hne hq' e
    have : t' = h.tk.getD i0 0 := by omega
    rw [this, v6] at hq'
    exact hne (Option.some.inj hq').symm
  refine L.step hj rfl rfl (by show 0 ≤ (xs.getD s0 L0).left + 1; omega) (by show (xs.getD s0 L0).left + 1 ≤ _; omega) ?_ (took_late rfl (by omega) rfl) ?_ ?_ ?_
  · intro i hi
    have := rise_inj W.rise hi hi0
    show 2 * i < h.pos + 1 ↔ _
    omega
  · intro t' i hq' T'
    have ei := rise_inj W.rise T'.at_ hi0
    subst ei
    have et := nodup_inj L.nodup hq' v6
    refine ⟨T'.at_, by show _ < h.pos + 1; omega, T'.tk, ?_, ?_, ?_⟩
    · show 4 * h.set.length + i < h.pos + 1 ↔ (t' : Int) < (xs.getD s0 L0).left + 1
      omega
    · intro _
      show (t' : Int) ≤ (xs.getD s0 L0).left + 1
      omega
    · intro e
      have e' : (t' : Int) = (xs.getD s0 L0).left + 1 := e
      omega
  · intro t' j h2 i hne hq' hj2 T'
    have := hnt t' j hne hq'
    have hl2 := (List.getElem?_eq_some_iff.1 T'.at_).1
    have tl := T'.left
    have ts := T'.served
    refine ⟨T'.at_, T'.took, T'.tk, ?_, ?_, ?_⟩
    · show _ ↔ (t' : Int) < (xs.getD s0 L0).left + 1
      omega
    · intro z
      show (t' : Int) ≤ (xs.getD s0 L0).left + 1
      have := ts z
      omega
    · intro e
      have e' : (t' : Int) = (xs.getD s0 L0).left + 1 := e
      show (xs.getD s0 L0).seq = 2 * ((xs.getD s0 L0).left + 1) + _
      have hp : h2.pos ≤ 2 * h2.set.length := by
        rcases Nat.lt_or_ge (2 * i + 1) h2.pos with z | z
        · have := ts z
          omega
        · omega
      rw [ph0 hp]
      omega
  · intro e
    have e' : (xs.getD s0 L0).left + 1 = (Q s0).length := e
    show (xs.getD s0 L0).seq = 2 * ((xs.getD s0 L0).left + 1)
    omega

theorem getD_of {l : List Nat} {i s : Nat} (h : l[i]? = some s) : l.getD i 0 = s := by rw [List.getD_eq_getElem?_getD, h]; rfl
theorem of_lt {l : List Nat} {i : Nat} (h : i < l.length) : l[i]? = some (l.getD i 0) := by rw [List.getD_eq_getElem?_getD, List.getElem?_eq_getElem h]; rfl

/-- One call: right, and the invariant holds behind it. -/
theorem Inv.step {N : Nat} {xs : List Lane} {hs : List HandM} {Q : Nat → List Nat} {c j0 : Nat} {h : HandM} (I : Inv N xs hs Q c) (hj : hs[j0]? = some h) (hc : c + 1 < 100000) :
    (stepM xs h).1.2 = true ∧ ((stepM xs h).1.1 = true → ∃ Q', Inv N (stepM xs h).2.1 (hs.set j0 (stepM xs h).2.2) Q' (c + 1)) ∧ ((stepM xs h).1.1 = false → (stepM xs h).2 = (xs, h)) := by
  have W := I.wf h (List.mem_of_getElem? hj)
  have htl := W.tk
  have hlen := I.len
  by_cases h2 : h.pos < 2 * h.set.length
  · have hi := of_lt (l := h.set) (i := h.pos / 2) (by omega)
    have hN := W.lt _ (List.mem_of_getElem? hi)
    by_cases he : h.pos % 2 = 0
    · have e : stepM xs h = ((true, (ticketF xs (h.set.getD (h.pos / 2) 0 : Nat)).1.2 == 0), (ticketF xs (h.set.getD (h.pos / 2) 0 : Nat)).2, { h with pos := h.pos + 1, tk := h.tk ++ [(ticketF xs (h.set.getD (h.pos / 2) 0 : Nat)).1.1.toNat] }) := by
        unfold stepM
        simp only [if_pos h2, if_pos he]
      rw [e, I.ticket hN]
      refine ⟨rfl, fun _ => ?_, fun z => by cases z⟩
      have := I.take_ hj hc hi (by omega)
      simpa using this
    · by_cases hv : servedF xs (h.set.getD (h.pos / 2) 0 : Nat) (h.tk.getD (h.pos / 2) 0 : Nat) = true
      · have e : stepM xs h = ((true, true), xs, { h with pos := h.pos + 1 }) := by
          unfold stepM
          simp only [if_pos h2, if_neg he, if_pos hv]
        rw [e]
        refine ⟨rfl, fun _ => ?_, fun z => by cases z⟩
        rw [I.served hN] at hv
        simp only [Bool.and_eq_true, decide_eq_true_eq] at hv
        exact I.serve hj hc hi (by omega) hv.2
      · have e : stepM xs h = ((false, true), xs, h) := by
          unfold stepM
          simp only [if_pos h2, if_neg he, if_neg hv]
        rw [e]
        exact ⟨rfl, (fun z => by cases z), fun _ => rfl⟩
  · by_cases h3 : h.pos < 3 * h.set.length
    · have hi := of_lt (l := h.set) (i := h.pos - 2 * h.set.length) (by omega)
      have hN := W.lt _ (List.mem_of_getElem? hi)
      obtain ⟨v1, v2, v3, v4, v5, v6⟩ := I.holds hj hi (by omega) (by omega)
      rw [show ph h.set.length (h.pos - 2 * h.set.length) h.pos = 0 by unfold ph; rw [if_neg (by omega), if_neg (by omega)]] at v3
      have ht := turn_ok (odd := 0) (up := seqUp) (xs := xs) (by omega) v2 v1 (by rw [v3, show 2 * (xs.getD (h.set.getD (h.pos - 2 * h.set.length) 0) L0).left + ((0 : Nat) : Int) = 2 * (xs.getD (h.set.getD (h.pos - 2 * h.set.length) 0) L0).left by omega]; exact tmod_even _ v5)
      have e : stepM xs h = ((true, (turnF 0 seqUp xs (h.set.getD (h.pos - 2 * h.set.length) 0 : Nat) (h.tk.getD (h.pos - 2 * h.set.length) 0 : Nat)).1 == 0 && (Int.tmod (Lk.seqF xs (h.set.getD (h.pos - 2 * h.set.length) 0 : Nat)) 2 == 0 && Lk.seqF (turnF 0 seqUp xs (h.set.getD (h.pos - 2 * h.set.length) 0 : Nat) (h.tk.getD (h.pos - 2 * h.set.length) 0 : Nat)).2 (h.set.getD (h.pos - 2 * h.set.length) 0 : Nat) == wrap64 (Lk.seqF xs (h.set.getD (h.pos - 2 * h.set.length) 0 : Nat) + 1))),
          (turnF 0 seqUp xs (h.set.getD (h.pos - 2 * h.set.length) 0 : Nat) (h.tk.getD (h.pos - 2 * h.set.length) 0 : Nat)).2, { h with pos := h.pos + 1 }) := by
        unfold stepM
        simp only [if_neg h2, if_pos h3]
      rw [e, ht]
      refine ⟨?_, fun _ => I.turns hj hc hi (.inl (by omega)), fun z => by cases z⟩
      have hs1 : Lk.seqF (xs.set (h.set.getD (h.pos - 2 * h.set.length) 0) (seqUp (xs.getD (h.set.getD (h.pos - 2 * h.set.length) 0) L0))) (h.set.getD (h.pos - 2 * h.set.length) 0 : Nat) = wrap64 ((xs.getD (h.set.getD (h.pos - 2 * h.set.length) 0) L0).seq + 1) := by
        unfold Lk.seqF
        rw [if_pos (show laneAt _ _ from ⟨by omega, by rw [List.length_set]; omega⟩), Int.toNat_natCast, getD_set _ _ _ (by omega)]
        rfl
      show ((0 : Int) == 0 && (_ && _)) = true
      rw [hs1, I.seqF hN, v3, show 2 * (xs.getD (h.set.getD (h.pos - 2 * h.set.length) 0) L0).left + ((0 : Nat) : Int) = 2 * (xs.getD (h.set.getD (h.pos - 2 * h.set.length) 0) L0).left by omega, tmod_even _ v5]
      simp
    · by_cases h4 : h.pos < 4 * h.set.length
      · have hi := of_lt (l := h.set) (i := h.pos - 3 * h.set.length) (by omega)
        have hN := W.lt _ (List.mem_of_getElem? hi)
        obtain ⟨v1, v2, v3, v4, v5, v6⟩ := I.holds hj hi (by omega) (by omega)
        rw [ph1 (by omega) (by omega)] at v3
        have ht := turn_ok (odd := 1) (up := seqUp) (xs := xs) (by omega) v2 v1 (by rw [v3]; exact tmod_odd _ v5)
        have e : stepM xs h = ((true, (turnF 1 seqUp xs (h.set.getD (h.pos - 3 * h.set.length) 0 : Nat) (h.tk.getD (h.pos - 3 * h.set.length) 0 : Nat)).1 == 0 && (Int.tmod (Lk.seqF xs (h.set.getD (h.pos - 3 * h.set.length) 0 : Nat)) 2 == 1 && Lk.seqF (turnF 1 seqUp xs (h.set.getD (h.pos - 3 * h.set.length) 0 : Nat) (h.tk.getD (h.pos - 3 * h.set.length) 0 : Nat)).2 (h.set.getD (h.pos - 3 * h.set.length) 0 : Nat) == wrap64 (Lk.seqF xs (h.set.getD (h.pos - 3 * h.set.length) 0 : Nat) + 1))),
            (turnF 1 seqUp xs (h.set.getD (h.pos - 3 * h.set.length) 0 : Nat) (h.tk.getD (h.pos - 3 * h.set.length) 0 : Nat)).2, { h with pos := h.pos + 1 }) := by
          unfold stepM
          simp only [if_neg h2, if_neg h3, if_pos h4]
        rw [e, ht]
        refine ⟨?_, fun _ => I.turns hj hc hi (.inr (by omega)), fun z => by cases z⟩
        have hs1 : Lk.seqF (xs.set (h.set.getD (h.pos - 3 * h.set.length) 0) (seqUp (xs.getD (h.set.getD (h.pos - 3 * h.set.length) 0) L0))) (h.set.getD (h.pos - 3 * h.set.length) 0 : Nat) = wrap64 ((xs.getD (h.set.getD (h.pos - 3 * h.set.length) 0) L0).seq + 1) := by
          unfold Lk.seqF
          rw [if_pos (show laneAt _ _ from ⟨by omega, by rw [List.length_set]; omega⟩), Int.toNat_natCast, getD_set _ _ _ (by omega)]
          rfl
        show ((0 : Int) == 0 && (_ && _)) = true
        rw [hs1, I.seqF hN, v3, show (((1 : Nat) : Int)) = 1 from rfl, tmod_odd _ v5]
        simp
      · by_cases h5 : h.pos < 5 * h.set.length
        · have hi := of_lt (l := h.set) (i := h.pos - 4 * h.set.length) (by omega)
          have hN := W.lt _ (List.mem_of_getElem? hi)
          obtain ⟨v1, v2, v3, v4, v5, v6⟩ := I.holds hj hi (by omega) (by omega)
          rw [ph2 (by omega)] at v3
          have ht := turn_ok (odd := 0) (up := leaveUp) (xs := xs) (by omega) v2 v1 (by rw [v3, show 2 * (xs.getD (h.set.getD (h.pos - 4 * h.set.length) 0) L0).left + ((2 : Nat) : Int) = 2 * ((xs.getD (h.set.getD (h.pos - 4 * h.set.length) 0) L0).left + 1) by omega]; exact tmod_even _ (by omega))
          have e : stepM xs h = ((true, (turnF 0 leaveUp xs (h.set.getD (h.pos - 4 * h.set.length) 0 : Nat) (h.tk.getD (h.pos - 4 * h.set.length) 0 : Nat)).1 == 0),
              (turnF 0 leaveUp xs (h.set.getD (h.pos - 4 * h.set.length) 0 : Nat) (h.tk.getD (h.pos - 4 * h.set.length) 0 : Nat)).2, { h with pos := h.pos + 1 }) := by
            unfold stepM
            simp only [if_neg h2, if_neg h3, if_neg h4, if_pos h5]
          rw [e, ht]
          exact ⟨rfl, fun _ => I.leaves hj hc hi (by omega), fun z => by cases z⟩
        · have e : stepM xs h = ((false, true), xs, h) := by
            unfold stepM
            simp only [if_neg h2, if_neg h3, if_neg h4, if_neg h5]
          rw [e]
          exact ⟨rfl, (fun z => by cases z), fun _ => rfl⟩

/-- A handler that does not go on has ended or waits. -/
theorem step_off {xs : List Lane} {h : HandM} (hoff : (stepM xs h).1.1 = false) (hnd : h.pos < 5 * h.set.length) :
    h.pos < 2 * h.set.length ∧ h.pos % 2 = 1 ∧ servedF xs (h.set.getD (h.pos / 2) 0 : Nat) (h.tk.getD (h.pos / 2) 0 : Nat) = false := by
  unfold stepM at hoff
  simp only [] at hoff
  split at hoff
  · rename_i h2
    split at hoff
    · cases hoff
    · split at hoff
      · cases hoff
      · exact ⟨h2, by omega, by rename_i z; simpa using z⟩
  · split at hoff
    · cases hoff
    · split at hoff
      · cases hoff
      · cases hoff

/-- THE RING: of those that wait, one that waits for a higher stripe can be found, and so on: there is an end to that. -/
theorem Inv.ring {N : Nat} {xs : List Lane} {hs : List HandM} {Q : Nat → List Nat} {c : Nat} (I : Inv N xs hs Q c) (hoff : ∀ h ∈ hs, (stepM xs h).1.1 = false) :
    ∀ (m j : Nat) (h : HandM), hs[j]? = some h → h.pos < 5 * h.set.length → N - h.set.getD (h.pos / 2) 0 ≤ m → False := by
  intro m
  induction m with
  | zero =>
    intro j h hj hnd hm
    obtain ⟨h2, _, _⟩ := step_off (hoff h (List.mem_of_getElem? hj)) hnd
    have := (I.wf h (List.mem_of_getElem? hj)).lt _ (List.mem_of_getElem? (of_lt (l := h.set) (i := h.pos / 2) (by omega)))
    omega
  | succ m ih =>
    intro j h hj hnd hm
    obtain ⟨h2, ho, hv⟩ := step_off (hoff h (List.mem_of_getElem? hj)) hnd
    have W := I.wf h (List.mem_of_getElem? hj)
    have hi := of_lt (l := h.set) (i := h.pos / 2) (by omega)
    have hN := W.lt _ (List.mem_of_getElem? hi)
    have L := I.lane _ hN
    obtain ⟨t, hq, T, et⟩ := I.mine hj hi (by omega)
    have ht := (List.getElem?_eq_some_iff.1 hq).1
    rw [I.served hN, et] at hv
    have hlt : (xs.getD (h.set.getD (h.pos / 2) 0) L0).left < t := by
      have h1 := T.left
      have h0 := L.left0
      have hge : ¬ (t : Int) < (xs.getD (h.set.getD (h.pos / 2) 0) L0).left := by
        rw [← h1]
        omega
      rcases (by omega : (xs.getD (h.set.getD (h.pos / 2) 0) L0).left < t ∨ (t : Int) ≤ (xs.getD (h.set.getD (h.pos / 2) 0) L0).left) with z | z
      · exact z
      · have : (t : Int) = (xs.getD (h.set.getD (h.pos / 2) 0) L0).left := by omega
        rw [decide_eq_true this, decide_eq_true (show (xs.getD (h.set.getD (h.pos / 2) 0) L0).left < (Q (h.set.getD (h.pos / 2) 0)).length by omega)] at hv
        cases hv
    have hl0 := L.left0
    obtain ⟨u, hu⟩ : ∃ u : Nat, (xs.getD (h.set.getD (h.pos / 2) 0) L0).left = u := ⟨_, (Int.toNat_of_nonneg hl0).symm⟩
    obtain ⟨j', hq'⟩ : ∃ j', (Q (h.set.getD (h.pos / 2) 0))[u]? = some j' := ⟨_, List.getElem?_eq_getElem (by omega)⟩
    obtain ⟨h', i', hj', T'⟩ := L.tick u j' hq'
    have hi' := (List.getElem?_eq_some_iff.1 T'.at_).1
    have hnl : ¬ 4 * h'.set.length + i' < h'.pos := by
      rw [T'.left]
      omega
    have hnd' : h'.pos < 5 * h'.set.length := by omega
    obtain ⟨h2', ho', hv'⟩ := step_off (hoff h' (List.mem_of_getElem? hj')) hnd'
    have W' := I.wf h' (List.mem_of_getElem? hj')
    have hi2 := of_lt (l := h'.set) (i := h'.pos / 2) (by omega)
    have hN2 := W'.lt _ (List.mem_of_getElem? hi2)
    have htk := T'.took
    have hne : i' ≠ h'.pos / 2 := by
      intro e
      subst e
      have es : h'.set.getD (h'.pos / 2) 0 = h.set.getD (h.pos / 2) 0 := getD_of T'.at_
      rw [I.served hN2, es, getD_of T'.tk] at hv'
      rw [decide_eq_true hu.symm, decide_eq_true (show (xs.getD (h.set.getD (h.pos / 2) 0) L0).left < (Q (h.set.getD (h.pos / 2) 0)).length by omega)] at hv'
      cases hv'
    have hlt2 := rise_lt W'.rise T'.at_ hi2 (by omega)
    exact ih j' h' hj' hnd' (by omega)

/-- As long as one has not ended there is one that goes on. -/
theorem Inv.goes {N : Nat} {xs : List Lane} {hs : List HandM} {Q : Nat → List Nat} {c : Nat} (I : Inv N xs hs Q c) (hc : c < (hs.map (fun h => 5 * h.set.length)).sum) : ∃ h ∈ hs, (stepM xs h).1.1 = true := by
  refine Classical.byContradiction fun hn => ?_
  have hoff : ∀ h ∈ hs, (stepM xs h).1.1 = false := by
    intro h hm
    cases e : (stepM xs h).1.1
    · rfl
    · exact absurd ⟨h, hm, e⟩ hn
  have hall : ∀ h ∈ hs, 5 * h.set.length ≤ h.pos := by
    intro h hm
    obtain ⟨j, hl, e⟩ := List.mem_iff_getElem.1 hm
    rcases Nat.lt_or_ge h.pos (5 * h.set.length) with z | z
    · exact (I.ring hoff _ j h (by rw [List.getElem?_eq_getElem hl, e]) z (Nat.le_refl _)).elim
    · exact z
  have : (hs.map (fun h => 5 * h.set.length)).sum ≤ (hs.map (·.pos)).sum := by
    have hI : ∀ l : List HandM, (∀ h ∈ l, 5 * h.set.length ≤ h.pos) → (l.map (fun h => 5 * h.set.length)).sum ≤ (l.map (·.pos)).sum := by
      intro l
      induction l with
      | nil => intro _; simp
      | cons x l ih =>
        intro h
        have h1 := h x (by simp)
        have h2 := ih (fun y hy => h y (by simp [hy]))
        simp only [List.map_cons, List.sum_cons]
        omega
    exact hI hs hall
  have := I.sum
  omega

/-- How many times a stripe is held by a handler, by the first of its set. -/
def holdsTo (s : Nat) (h : HandM) : Nat → Nat
  | 0 => 0
  | k + 1 => holdsTo s h k + if (h.set.getD k 0 == s && insideM h k) = true then 1 else 0
def heldTo (s : Nat) (hs : List HandM) : Nat → Nat
  | 0 => 0
  | j + 1 => heldTo s hs j + holdsTo s (hs.getD j ⟨[], 0, []⟩) (hs.getD j ⟨[], 0, []⟩).set.length

/-- No stripe is held by two. -/
theorem Inv.one {N : Nat} {xs : List Lane} {hs : List HandM} {Q : Nat → List Nat} {c : Nat} (I : Inv N xs hs Q c) {s : Nat} (hs' : s < N) : heldTo s hs hs.length ≤ 1 := by
  have L := I.lane s hs'
  have hin : ∀ (j : Nat) (h : HandM) (k : Nat), hs[j]? = some h → k < h.set.length → (h.set.getD k 0 == s && insideM h k) = true → (Q s)[(xs.getD s L0).left.toNat]? = some j ∧ h.set[k]? = some s := by
    intro j h k hj hk hb
    unfold insideM at hb
    simp only [Bool.and_eq_true, beq_iff_eq, decide_eq_true_eq] at hb
    obtain ⟨e, b1, b2⟩ := hb
    have hi := of_lt (l := h.set) (i := k) hk
    rw [e] at hi
    obtain ⟨t, hq, T, _⟩ := I.mine hj hi (by omega)
    have h1 := T.served (by omega)
    have h2 : ¬ (t : Int) < (xs.getD s L0).left := by
      rw [← T.left]
      omega
    have : (xs.getD s L0).left.toNat = t := by omega
    rw [this]
    exact ⟨hq, hi⟩
  have hone : ∀ (j : Nat) (h : HandM), hs[j]? = some h → ∀ m, m ≤ h.set.length → holdsTo s h m ≤ 1 ∧ (holdsTo s h m ≠ 0 → (Q s)[(xs.getD s L0).left.toNat]? = some j ∧ ∃ k, k < m ∧ h.set[k]? = some s) := by
    intro j h hj m
    induction m with
    | zero => intro _; exact ⟨Nat.zero_le _, fun z => absurd rfl z⟩
    | succ m ih =>
      intro hm
      obtain ⟨a, b⟩ := ih (by omega)
      unfold holdsTo
      split
      · rename_i hb
        obtain ⟨q1, q2⟩ := hin j h m hj (by omega) hb
        have hz : holdsTo s h m = 0 := by
          rcases Nat.eq_zero_or_pos (holdsTo s h m) with z | z
          · exact z
          · obtain ⟨_, k, hk, e⟩ := b (by omega)
            have := rise_inj (I.wf h (List.mem_of_getElem? hj)).rise e q2
            omega
        rw [hz]
        exact ⟨by omega, fun _ => ⟨q1, m, by omega, q2⟩⟩
      · refine ⟨by omega, fun z => ?_⟩
        obtain ⟨q1, k, hk, e⟩ := b (by omega)
        exact ⟨q1, k, by omega, e⟩
  have hall : ∀ m, m ≤ hs.length → heldTo s hs m ≤ 1 ∧ (heldTo s hs m ≠ 0 → ∃ j, j < m ∧ (Q s)[(xs.getD s L0).left.toNat]? = some j) := by
    intro m
    induction m with
    | zero => intro _; exact ⟨Nat.zero_le _, fun z => absurd rfl z⟩
    | succ m ih =>
      intro hm
      obtain ⟨a, b⟩ := ih (by omega)
      have hj : hs[m]? = some (hs.getD m ⟨[], 0, []⟩) := by rw [List.getD_eq_getElem?_getD, List.getElem?_eq_getElem (by omega)]; rfl
      obtain ⟨d, e⟩ := hone m _ hj _ (Nat.le_refl _)
      unfold heldTo
      rcases Nat.eq_zero_or_pos (holdsTo s (hs.getD m ⟨[], 0, []⟩) (hs.getD m ⟨[], 0, []⟩).set.length) with z | z
      · rw [z]
        refine ⟨by omega, fun y => ?_⟩
        obtain ⟨j, h1, h2⟩ := b (by omega)
        exact ⟨j, by omega, h2⟩
      · obtain ⟨q1, _⟩ := e (by omega)
        have hz : heldTo s hs m = 0 := by
          rcases Nat.eq_zero_or_pos (heldTo s hs m) with y | y
          · exact y
          · obtain ⟨j, h1, h2⟩ := b (by omega)
            rw [q1] at h2
            cases h2
            omega
        rw [hz]
        exact ⟨by omega, fun _ => ⟨m, by omega, q1⟩⟩
  exact (hall _ (Nat.le_refl _)).1

/-- How many handlers' sets have a stripe. -/
def haveTo (s : Nat) (l : List Nat) : Nat → Nat
  | 0 => 0
  | k + 1 => haveTo s l k + if (l.getD k 0 == s) = true then 1 else 0
def wantTo (s : Nat) (hs : List HandM) : Nat → Nat
  | 0 => 0
  | j + 1 => wantTo s hs j + haveTo s (hs.getD j ⟨[], 0, []⟩).set (hs.getD j ⟨[], 0, []⟩).set.length
theorem haveTo_count (s : Nat) (l : List Nat) : ∀ k, k ≤ l.length → haveTo s l k = (l.take k).count s := by
  intro k
  induction k with
  | zero => intro _; simp [haveTo]
  | succ k ih =>
    intro hk
    rw [haveTo, ih (by omega), List.take_succ_eq_append_getElem (by omega), List.count_append, List.getD_eq_getElem?_getD, List.getElem?_eq_getElem (by omega)]
    simp [List.count_cons]
theorem wantTo_sum (s : Nat) (hs : List HandM) (hd : ∀ h ∈ hs, 5 * h.set.length ≤ h.pos) : ∀ m, m ≤ hs.length → wantTo s hs m = ((hs.take m).map (took s)).sum := by
  intro m
  induction m with
  | zero => intro _; simp [wantTo]
  | succ m ih =>
    intro hm
    have hj : hs.getD m ⟨[], 0, []⟩ = hs[m] := by rw [List.getD_eq_getElem?_getD, List.getElem?_eq_getElem (by omega)]; rfl
    have h5 := hd hs[m] (List.getElem_mem (by omega))
    rw [wantTo, ih (by omega), List.take_succ_eq_append_getElem (by omega), List.map_append, List.sum_append, hj, haveTo_count _ _ _ (Nat.le_refl _), List.take_of_length_le (Nat.le_refl _)]
    have : took s hs[m] = hs[m].set.count s := by
      unfold took
      rw [List.take_of_length_le (by omega)]
    simp [this]

/-- In the end. -/
theorem Inv.end_ {N : Nat} {xs : List Lane} {hs : List HandM} {Q : Nat → List Nat} {c : Nat} (I : Inv N xs hs Q c) (hc : (hs.map (fun h => 5 * h.set.length)).sum ≤ c) :
    (∀ h ∈ hs, doneM h = true) ∧ ∀ s, s < N → Lk.seqF xs (s : Nat) = 2 * (wantTo s hs hs.length : Nat) ∧ waitingF xs (s : Nat) = 0 := by
  have hall : ∀ h ∈ hs, 5 * h.set.length ≤ h.pos := by
    have hI : ∀ l : List HandM, (∀ h ∈ l, h.pos ≤ 5 * h.set.length) → (l.map (fun h => 5 * h.set.length)).sum ≤ (l.map (·.pos)).sum → ∀ h ∈ l, 5 * h.set.length ≤ h.pos := by
      have hle : ∀ l : List HandM, (∀ h ∈ l, h.pos ≤ 5 * h.set.length) → (l.map (·.pos)).sum ≤ (l.map (fun h => 5 * h.set.length)).sum := by
        intro l
        induction l with
        | nil => intro _; simp
        | cons x l ih =>
          intro h
          have h1 := h x (by simp)
          have h2 := ih (fun y hy => h y (by simp [hy]))
          simp only [List.map_cons, List.sum_cons]
          omega
      intro l
      induction l with
      | nil => intro _ _ h hm; cases hm
      | cons x l ih =>
        intro h hsum y hy
        have h1 := h x (by simp)
        have h2 := hle l (fun y hy => h y (by simp [hy]))
        simp only [List.map_cons, List.sum_cons] at hsum
        rcases List.mem_cons.1 hy with rfl | hy
        · omega
        · exact ih (fun y hy => h y (by simp [hy])) (by omega) y hy
    exact hI hs (fun h hm => (I.wf h hm).pos) (by rw [I.sum]; exact hc)
  refine ⟨fun h hm => by unfold doneM; exact decide_eq_true (hall h hm), fun s hs' => ?_⟩
  have L := I.lane s hs'
  have hl0 := L.left0
  have hle := L.left
  have hall' : (xs.getD s L0).left = (Q s).length := by
    rcases (by omega : (xs.getD s L0).left < (Q s).length ∨ (Q s).length ≤ (xs.getD s L0).left) with z | z
    · obtain ⟨u, hu⟩ : ∃ u : Nat, (xs.getD s L0).left = u := ⟨_, (Int.toNat_of_nonneg hl0).symm⟩
      obtain ⟨j, hq⟩ : ∃ j, (Q s)[u]? = some j := ⟨_, List.getElem?_eq_getElem (by omega)⟩
      obtain ⟨h, i, hj, T⟩ := L.tick u j hq
      have hi := (List.getElem?_eq_some_iff.1 T.at_).1
      have := hall h (List.mem_of_getElem? hj)
      have := T.left.1 (by omega)
      omega
    · omega
  constructor
  · rw [I.seqF hs', L.seq hall', hall', L.count, wantTo_sum s hs hall _ (Nat.le_refl _), List.take_of_length_le (Nat.le_refl _)]
  · have := I.len
    unfold waitingF
    rw [if_pos (show laneAt xs (s : Int) from ⟨by omega, by omega⟩), Int.toNat_natCast, L.given, hall', Int.sub_self]
    unfold wrap64
    omega

/-- The start. -/
theorem Inv.start (N : Nat) (hs : List HandM) (hw : ∀ h ∈ hs, WF N h) (h0 : ∀ h ∈ hs, h.pos = 0) : Inv N (List.replicate N L0) hs (fun _ => []) 0 where
  len := List.length_replicate
  small := by omega
  wf := hw
  lane := by
    intro s hs'
    have e : (List.replicate N L0).getD s L0 = L0 := by
      rw [List.getD_eq_getElem?_getD, List.getElem?_replicate]
      split <;> rfl
    rw [e]
    refine ⟨rfl, Int.le_refl _, Int.le_refl _, Nat.le_refl _, List.nodup_nil, fun t j h => by simp at h, fun j h i hj hi hlt => ?_, fun _ => rfl, ?_⟩
    · have := h0 h (List.mem_of_getElem? hj)
      omega
    · have hI : ∀ l : List HandM, (∀ h ∈ l, h.pos = 0) → (l.map (took s)).sum = 0 := by
        intro l
        induction l with
        | nil => intro _; rfl
        | cons x l ih =>
          intro h
          have h1 := h x (by simp)
          have h2 := ih (fun y hy => h y (by simp [hy]))
          have : took s x = 0 := by
            unfold took
            rw [h1]
            simp
          simp only [List.map_cons, List.sum_cons]
          omega
      rw [hI hs h0]
      rfl
  sum := by
    have hI : ∀ l : List HandM, (∀ h ∈ l, h.pos = 0) → (l.map (·.pos)).sum = 0 := by
      intro l
      induction l with
      | nil => intro _; rfl
      | cons x l ih =>
        intro h
        have h1 := h x (by simp)
        have h2 := ih (fun y hy => h y (by simp [hy]))
        simp only [List.map_cons, List.sum_cons]
        omega
    exact hI hs h0
end Go.Proofs.Ytgklgicfgpemgaa.Lk
