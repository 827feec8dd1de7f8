/- The sorted distinct stripes are the stripes that are hit. No condition. -/
import Derived.Test.YtcejkpjinmolhaaDoorDrRefSet
namespace Go.Proofs.YtcejkpjinmolhaaDoor.Dr
open Go Go.RowKit Go.Lib
set_option linter.unusedVariables false
set_option linter.unusedSimpArgs false

theorem lt_ext : ∀ (xs ys : List Int), xs.Pairwise (· < ·) → ys.Pairwise (· < ·) → (∀ x, x ∈ xs ↔ x ∈ ys) → xs = ys
  | [], [], _, _, _ => rfl
  | [], y :: ys, _, _, h => by have := (h y).2 (List.mem_cons_self ..); cases this
  | x :: xs, [], _, _, h => by have := (h x).1 (List.mem_cons_self ..); cases this
  | x :: xs, y :: ys, hx, hy, h => by
    have hx' := List.pairwise_cons.1 hx
    have hy' := List.pairwise_cons.1 hy
    have e : x = y := by
      rcases List.mem_cons.1 ((h x).1 (List.mem_cons_self ..)) with h1 | h1
      · exact h1
      · rcases List.mem_cons.1 ((h y).2 (List.mem_cons_self ..)) with h2 | h2
        · exact h2.symm
        · have a := hy'.1 x h1
          have b := hx'.1 y h2
          omega
    subst e
    rw [lt_ext xs ys hx'.2 hy'.2 (fun z => ?_)]
    constructor
    · intro hz
      have a := hx'.1 z hz
      rcases List.mem_cons.1 ((h z).1 (List.mem_cons_of_mem _ hz)) with h1 | h1
      · omega
      · exact h1
    · intro hz
      have a := hy'.1 z hz
      rcases List.mem_cons.1 ((h z).2 (List.mem_cons_of_mem _ hz)) with h1 | h1
      · omega
      · exact h1

theorem compactUp (d : Array Int) (hd : ∀ i j, i ≤ j → j < d.size → d[i]! ≤ d[j]!) : ∀ m, m ≤ d.size → (compactUpTo d m).Pairwise (· < ·) ∧ (∀ x, x ∈ compactUpTo d m ↔ ∃ j, j < m ∧ d[j]! = x)
  | 0, _ => ⟨by simp [compactUpTo], fun x => by simp [compactUpTo]⟩
  | m + 1, hm => by
    obtain ⟨h1, h2⟩ := compactUp d hd m (by omega)
    rw [compactUpTo_succ]
    by_cases hk : keeps d m = true
    · rw [if_pos hk]
      refine ⟨List.pairwise_append.2 ⟨h1, by simp, fun a ha b hb => ?_⟩, fun x => ?_⟩
      · rw [List.mem_singleton] at hb
        subst hb
        obtain ⟨j, hj, rfl⟩ := (h2 a).1 ha
        have hk' := of_decide_eq_true hk
        have e1 := hd j (m - 1) (by omega) (by omega)
        have e2 := hd (m - 1) m (by omega) (by omega)
        rcases hk' with h0 | h0
        · omega
        · omega
      · rw [List.mem_append, h2, List.mem_singleton]
        constructor
        · rintro (⟨j, hj, rfl⟩ | rfl)
          · exact ⟨j, by omega, rfl⟩
          · exact ⟨m, by omega, rfl⟩
        · rintro ⟨j, hj, rfl⟩
          rcases Nat.lt_or_ge j m with h3 | h3
          · exact .inl ⟨j, h3, rfl⟩
          · obtain rfl : j = m := by omega
            exact .inr rfl
    · rw [if_neg hk, List.append_nil]
      have hk' : ¬(m = 0 ∨ d[m]! ≠ d[m - 1]!) := fun h => hk (decide_eq_true h)
      refine ⟨h1, fun x => ?_⟩
      rw [h2]
      constructor
      · rintro ⟨j, hj, rfl⟩
        exact ⟨j, by omega, rfl⟩
      · rintro ⟨j, hj, rfl⟩
        rcases Nat.lt_or_ge j m with h3 | h3
        · exact ⟨j, h3, rfl⟩
        · obtain rfl : j = m := by omega
          refine ⟨j - 1, by omega, ?_⟩
          have : d[j]! = d[j - 1]! := Decidable.byContradiction fun h => hk' (.inr h)
          exact this.symm

theorem compact_sort (zs : List Int) : (Lib.compact (sortF zs)).Pairwise (· < ·) ∧ ∀ x, x ∈ Lib.compact (sortF zs) ↔ x ∈ zs := by
  have hp : (sortF zs).Pairwise (fun x y => decide (x ≤ y) = true) := List.pairwise_mergeSort (fun a b c h1 h2 => by simp only [decide_eq_true_eq] at *; omega) (fun a b => by simp only [Bool.or_eq_true, decide_eq_true_eq]; omega) zs
  have hs : ∀ i j, i ≤ j → j < (sortF zs).toArray.size → (sortF zs).toArray[i]! ≤ (sortF zs).toArray[j]! := by
    intro i j hij hj
    have hj' : j < (sortF zs).length := by simpa using hj
    rw [getElem!_pos (sortF zs).toArray i (by simpa using Nat.lt_of_le_of_lt hij hj'), getElem!_pos (sortF zs).toArray j hj]
    simp only [List.getElem_toArray]
    rcases Nat.lt_or_ge i j with h | h
    · have := List.pairwise_iff_getElem.1 hp i j (by omega) hj' h
      simpa using this
    · obtain rfl : i = j := by omega
      exact Int.le_refl _
  have h := compactUp (sortF zs).toArray hs (sortF zs).length (by simp)
  refine ⟨h.1, fun x => ?_⟩
  show x ∈ compactUpTo _ _ ↔ _
  rw [h.2]
  have hm : x ∈ sortF zs ↔ x ∈ zs := List.mem_mergeSort
  rw [← hm]
  constructor
  · rintro ⟨j, hj, rfl⟩
    rw [getElem!_pos (sortF zs).toArray j (by simpa using hj)]
    simp
  · intro hx
    obtain ⟨j, hj, rfl⟩ := List.mem_iff_getElem.1 hx
    exact ⟨j, hj, by rw [getElem!_pos (sortF zs).toArray j (by simpa using hj)]; simp⟩

theorem stripeF_in (s : ByteArray) (m : Nat) (h1 : 1 ≤ m) (h2 : m ≤ 64) : ∃ t : Nat, t < m ∧ stripeF s (m : Int) = (t : Int) := by
  refine ⟨sum s % m, Nat.mod_lt _ (by omega), ?_⟩
  unfold stripeF
  rw [if_neg (by omega), Int.toNat_natCast]
theorem sets_same (n : Int) (keys : List ByteArray) : setF n keys = refSetF n keys := by
  unfold setF refSetF
  by_cases h : n < 1 ∨ n > 64
  · rw [if_pos h, if_pos h]
  · rw [if_neg h, if_neg h]
    obtain ⟨m, rfl⟩ := Int.eq_ofNat_of_zero_le (show 0 ≤ n by omega)
    rw [Int.toNat_natCast]
    obtain ⟨h1, h2⟩ := compact_sort (stripesF (m : Int) keys)
    refine lt_ext _ _ h1 ?_ (fun x => ?_)
    · unfold refSetUp
      refine List.Pairwise.filter _ ?_
      rw [List.pairwise_map]
      exact (List.pairwise_lt_range).imp (fun h => by omega)
    · rw [h2]
      unfold stripesF refSetUp hits
      rw [List.mem_filter, List.mem_map]
      simp only [List.any_eq_true, beq_iff_eq]
      constructor
      · rintro ⟨s, hs, rfl⟩
        obtain ⟨t, ht, e⟩ := stripeF_in s m (by omega) (by omega)
        exact ⟨List.mem_map.2 ⟨t, List.mem_range.2 ht, e.symm⟩, s, hs, rfl⟩
      · rintro ⟨_, s, hs, e⟩
        exact ⟨s, hs, e⟩
end Go.Proofs.YtcejkpjinmolhaaDoor.Dr
