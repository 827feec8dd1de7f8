/- WheelOnce: the plain law. No condition. -/
import Derived.Test.YtaefbibkkkglnaaWhK
import Derived.OpenShut
namespace Go.Proofs.Ytaefbibkkkglnaa.Wh
open Go Go.RowKit Go.Proofs.YtaefbibkkkglnaaW.PrintWords
set_option linter.unusedVariables false
set_option linter.unusedSimpArgs false
/-- Who has been told: those whose time is past, and those of ids. -/
def seen (now : Int) (fs : List Int) (T : Int) (ids : List ByteArray) (x : Nat) : Bool := decide (x < fs.length ∧ farT now fs x ≤ T) || ids.any (fun s => decide (s = nm x))
theorem seen_cons (now : Int) (fs : List Int) (T : Int) (ids : List ByteArray) (s : ByteArray) (x : Nat) : seen now fs T (ids ++ [s]) x = (seen now fs T ids x || decide (s = nm x)) := by
  unfold seen
  rw [List.any_append]
  simp [Bool.or_assoc]
structure Due (now : Int) (fs : List Int) (was T : Int) (D : List E) : Prop where
  sorted : Sorted D
  ids : (D.map Prod.fst).Nodup
  mem : ∀ e, e ∈ D ↔ ∃ k < fs.length, e = (nm k, farT now fs k) ∧ was < farT now fs k ∧ farT now fs k ≤ T
theorem due_ok {now : Int} {fs : List Int} {was T : Int} {L : List E} (hs : Sorted L) (hn : (L.map Prod.fst).Nodup) (hp : L.Perm ((List.range fs.length).map fun i => (nm i, farT now fs i))) : Due now fs was T (toldF T (leftF was L)) := by
  refine ⟨(hs.sublist List.filter_sublist).sublist List.filter_sublist, (hn.sublist (List.filter_sublist.map _)).sublist (List.filter_sublist.map _), fun e => ?_⟩
  unfold toldF leftF
  rw [List.mem_filter, List.mem_filter, hp.mem_iff, List.mem_map]
  constructor
  · rintro ⟨⟨⟨k, hk, rfl⟩, h1⟩, h2⟩
    exact ⟨k, List.mem_range.1 hk, rfl, by simpa using h1, by simpa using h2⟩
  · rintro ⟨k, hk, rfl, h1, h2⟩
    exact ⟨⟨⟨k, List.mem_range.2 hk, rfl⟩, by simpa using h1⟩, by simpa using h2⟩
section
variable {now : Int} {fs : List Int} {was T : Int} {D : List E}
theorem Due.new (h : Due now fs was T D) (hl : fs.length ≤ 400) (hw : was ≤ T) (x : Nat) (hx : x < 400) : seen now fs was (D.map Prod.fst) x = seen now fs T [] x := by
  unfold seen
  rw [Bool.eq_iff_iff]
  simp only [Bool.or_eq_true, decide_eq_true_eq, List.any_eq_true, List.mem_map, List.not_mem_nil, false_and, exists_false, or_false]
  constructor
  · rintro (⟨h1, h2⟩ | ⟨s, ⟨e, he, rfl⟩, h2⟩)
    · exact ⟨h1, by omega⟩
    · obtain ⟨k, hk, rfl, h3, h4⟩ := (h.mem e).1 he
      have := nm_inj (a := k) (b := x) (by omega) (by omega) h2
      subst this
      exact ⟨hk, h4⟩
  · rintro ⟨h1, h2⟩
    by_cases h3 : farT now fs x ≤ was
    · exact .inl ⟨h1, h3⟩
    · exact .inr ⟨_, ⟨_, (h.mem _).2 ⟨x, h1, rfl, by omega, h2⟩, rfl⟩, rfl⟩
theorem Due.at_ (h : Due now fs was T D) (hl : fs.length ≤ 400) (j : Nat) (hj : j < D.length) :
    ∃ k < fs.length, D[j] = (nm k, farT now fs k) ∧ was < farT now fs k ∧ farT now fs k ≤ T ∧ seen now fs was ((D.take j).map Prod.fst) k = false ∧ (∀ x < 400, seen now fs was ((D.take (j + 1)).map Prod.fst) x = if x = k then true else seen now fs was ((D.take j).map Prod.fst) x) := by
  obtain ⟨k, hk, e, h3, h4⟩ := (h.mem _).1 (List.getElem_mem hj)
  refine ⟨k, hk, e, h3, h4, ?_, fun x hx => ?_⟩
  · unfold seen
    rw [Bool.or_eq_false_iff]
    refine ⟨by simp; intro _; omega, ?_⟩
    rw [List.any_eq_false]
    intro s hs q
    simp at q
    subst q
    obtain ⟨i, hi, e2⟩ := List.getElem_of_mem hs
    have hi2 : i < j := by rw [List.length_map, List.length_take] at hi; omega
    rw [List.getElem_map, List.getElem_take] at e2
    have h5 : (D.map Prod.fst)[i]'(by rw [List.length_map]; omega) = (D.map Prod.fst)[j]'(by rw [List.length_map]; omega) := by
      rw [List.getElem_map, List.getElem_map, e2, e]
    have := (List.getElem_inj h.ids).1 h5
    omega
  · rw [List.take_succ_eq_append_getElem hj, List.map_append, List.map_cons, List.map_nil, seen_cons, e]
    by_cases hxk : x = k
    · subst hxk
      simp
    · rw [if_neg hxk]
      have : decide ((nm k, farT now fs k).1 = nm x) = false := decide_eq_false fun q => hxk (nm_inj (a := k) (b := x) (by omega) (by omega) q).symm
      rw [this, Bool.or_false]
end
/-- The last time and name told. -/
def lastT (D : List E) (j : Nat) : Int := if j = 0 then -1 else (D.getD (j - 1) (⟨#[]⟩, 0)).2
def lastN (D : List E) (j : Nat) : ByteArray := if j = 0 then ⟨#[]⟩ else (D.getD (j - 1) (⟨#[]⟩, 0)).1
theorem last_succ (D : List E) (j : Nat) (hj : j < D.length) : lastT D (j + 1) = D[j].2 ∧ lastN D (j + 1) = D[j].1 := by
  unfold lastT lastN
  rw [if_neg (by omega), if_neg (by omega), Nat.add_sub_cancel, List.getD_eq_getElem?_getD, List.getElem?_eq_getElem hj]
  exact ⟨rfl, rfl⟩
theorem last_ok {D : List E} (hs : Sorted D) (j : Nat) (hj : j < D.length) (h0 : 0 ≤ D[j].2) : lastT D j ≤ D[j].2 ∧ (lastT D j = D[j].2 → Op.bytesLess (lastN D j).toList D[j].1.toList = true) := by
  rcases Nat.eq_zero_or_pos j with h | h
  · subst h
    unfold lastT lastN
    rw [if_pos rfl, if_pos rfl]
    exact ⟨by omega, fun q => by omega⟩
  · obtain ⟨i, rfl⟩ : ∃ i, j = i + 1 := ⟨j - 1, by omega⟩
    obtain ⟨e1, e2⟩ := last_succ D i (by omega)
    rw [e1, e2]
    have h1 : lt D[i] D[i + 1] = true := List.pairwise_iff_getElem.1 hs i (i + 1) (by omega) hj (by omega)
    unfold lt at h1
    simp only [Bool.or_eq_true, decide_eq_true_eq, Bool.and_eq_true, beq_iff_eq] at h1
    rcases h1 with h1 | ⟨h1, h2⟩
    · exact ⟨by omega, fun q => by omega⟩
    · exact ⟨by omega, fun _ => h2⟩
/-- A table of 400 bools. -/
def Tab (w : World) (g : Nat) (f : Nat → Bool) : Prop := ∃ cs : Array Value, w.heap[g]? = some (.cells cs 28 (0, 0)) ∧ cs.size = 400 ∧ ∀ x < 400, cs[x]? = some (.bool (f x))
section
variable {w w' : World} {g : Nat} {f f' : Nat → Bool}
theorem Tab.get (h : Tab w g f) {x : Nat} (hx : x < 400) : w.cell? ⟨g, x, none⟩ = some (.bool (f x)) ∧ w.frozen? ⟨g, x, none⟩ = false := by
  obtain ⟨cs, h1, _, h3⟩ := h
  exact ⟨(blk_cell h1 x).trans (h3 x hx), blk_frozen h1 x⟩
theorem Tab.put (h : Tab w g f) {k : Nat} (hk : k < 400) (hf : ∀ x < 400, f' x = if x = k then true else f x) : Tab (w.setCell ⟨g, k, none⟩ (.bool true)) g f' := by
  obtain ⟨cs, h1, h2, h3⟩ := h
  refine ⟨_, blk_set h1 k _, by simp [h2], fun x hx => ?_⟩
  rw [hf x hx]
  by_cases hxk : x = k
  · subst hxk
    rw [Array.getElem?_setIfInBounds_self_of_lt (by omega), if_pos rfl]
  · rw [Array.getElem?_setIfInBounds_ne (Ne.symm hxk), if_neg hxk, h3 x hx]
theorem Tab.move (h : Tab w g f) (hb : w'.heap[g]? = w.heap[g]?) : Tab w' g f := by
  obtain ⟨cs, h1, h2, h3⟩ := h
  exact ⟨cs, hb.trans h1, h2, h3⟩
theorem Tab.same (h : Tab w g f) (hf : ∀ x < 400, f x = f' x) : Tab w g f' := by
  obtain ⟨cs, h1, h2, h3⟩ := h
  exact ⟨cs, h1, h2, fun x hx => by rw [h3 x hx, hf x hx]⟩
theorem Tab.lt (h : Tab w g f) : g < w.heap.size := by
  obtain ⟨cs, h1, _⟩ := h
  exact blk_lt h1
end
/-- What an Advance of WheelOnce tells, as the law reads it. -/
structure Steps (now : Int) (fs : List Int) (was T : Int) (ids : List ByteArray) (lT : Nat → Int) (lN : Nat → ByteArray) : Prop where
  z1 : lT 0 = -1
  z2 : lN 0 = ⟨#[]⟩
  step : ∀ j (h : j < ids.length), ∃ k < fs.length, ids[j] = nm k ∧ was < farT now fs k ∧ farT now fs k ≤ T ∧ seen now fs was (ids.take j) k = false ∧ (∀ x < 400, seen now fs was (ids.take (j + 1)) x = if x = k then true else seen now fs was (ids.take j) x) ∧ lT j ≤ farT now fs k ∧ (lT j = farT now fs k → Op.bytesLess (lN j).toList (nm k).toList = true) ∧ lT (j + 1) = farT now fs k ∧ lN (j + 1) = nm k
  new : ∀ x < 400, seen now fs was ids x = seen now fs T [] x
  few : ids.length ≤ fs.length
theorem steps_ok {now : Int} {fs : List Int} {was T : Int} {L : List E} (hs : Sorted L) (hn : (L.map Prod.fst).Nodup) (hp : L.Perm ((List.range fs.length).map fun i => (nm i, farT now fs i))) (hl : fs.length ≤ 400) (hw : was ≤ T) (h0 : 0 ≤ now) (h1 : now ≤ was) :
    ∃ lT lN, Steps now fs was T ((toldF T (leftF was L)).map Prod.fst) lT lN := by
  have hd := due_ok (was := was) (T := T) hs hn hp
  have hll : (toldF T (leftF was L)).length ≤ fs.length := by
    have e1 : (toldF T (leftF was L)).length ≤ (leftF was L).length := List.length_filter_le _ _
    have e2 : (leftF was L).length ≤ L.length := List.length_filter_le _ _
    have e3 := hp.length_eq
    simp at e3
    omega
  generalize toldF T (leftF was L) = D at *
  refine ⟨lastT D, lastN D, rfl, rfl, fun j h => ?_, fun x hx => hd.new hl hw x hx, by rw [List.length_map]; exact hll⟩
  have hj : j < D.length := by rw [List.length_map] at h; exact h
  obtain ⟨k, hk, e, h3, h4, h5, h6⟩ := hd.at_ hl j hj
  have e2 : D[j].2 = farT now fs k := by rw [e]
  have e1 : D[j].1 = nm k := by rw [e]
  have h7 := last_ok hd.sorted j hj (by omega)
  have h8 := last_succ D j hj
  rw [e1, e2] at h7 h8
  rw [← List.map_take, ← List.map_take]
  exact ⟨k, hk, by rw [List.getElem_map, e1], h3, h4, h5, h6, h7.1, h7.2, h8.1, h8.2⟩
theorem zeros400 : Try.zeroCells28 = Array.replicate 400 (.bool false) := by kernel_rfl
theorem tab_new {now : Int} {fs : List Int} (w : World) (h : ∀ x < fs.length, now < farT now fs x) : Tab (w.alloc (.cells Try.zeroCells28 28 (0, 0))) w.heap.size (seen now fs now []) := by
  refine ⟨_, heap_alloc_new _ _, by rw [zeros400]; simp, fun x hx => ?_⟩
  rw [zeros400]
  have : seen now fs now [] x = false := by
    unfold seen
    rw [Bool.or_eq_false_iff]
    refine ⟨decide_eq_false fun q => ?_, rfl⟩
    have := h x q.1
    omega
  rw [this, Array.getElem?_replicate, if_pos hx]
theorem nm_eq {m k : Nat} (hm : m ≤ 400) (hk : k ≤ 400) : ((nm m).toList == (nm k).toList) = decide (m = k) := by
  by_cases h : m = k
  · subst h
    simp
  · rw [toList_ne (fun q => h (nm_inj hm hk q))]
    simp [h]
end Go.Proofs.Ytaefbibkkkglnaa.Wh
