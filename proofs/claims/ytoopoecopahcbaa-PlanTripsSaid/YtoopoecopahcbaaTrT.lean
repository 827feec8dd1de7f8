/- larderref17.Trip's table against plan.Trip's, plainly. No condition. -/
import Derived.Test.YtoopoecopahcbaaSmP
namespace Go.Proofs.Ytoopoecopahcbaa.Tr
open Go Go.RowKit
set_option linter.unusedVariables false
set_option linter.unusedSimpArgs false

/-- What one way costs: from j over k, then through what is left. -/
def wayF (zs : List (List Int)) (R : Nat → Nat → Int) (s j k : Nat) : Int := fr zs j k + R (s - 2 ^ k) k
/-- The best of the ways over 1 to K - 1; -1: there is none. -/
def bestK (zs : List (List Int)) (R : Nat → Nat → Int) (s j : Nat) : Nat → Int
  | 0 => -1
  | k + 1 => if k = 0 ∨ bit s k = 0 then bestK zs R s j k else if bestK zs R s j k < 0 ∨ wayF zs R s j k < bestK zs R s j k then wayF zs R s j k else bestK zs R s j k
def rstep (zs : List (List Int)) (R : Nat → Nat → Int) (s j : Nat) : Int :=
  if s = 0 then fr zs j 0 else if bestK zs R s j zs.length < 0 then 0 else bestK zs R s j zs.length
def RDone (zs : List (List Int)) (R : Nat → Nat → Int) (s j : Nat) : Prop :=
  ∀ s' j', j' < zs.length → s' < s ∨ s' = s ∧ j' < j → R s' j' = rstep zs R s' j' ∧ 0 ≤ R s' j' ∧ R s' j' ≤ ((s' : Int) + 1) * 1000000000
def updR (R : Nat → Nat → Int) (s j : Nat) (v : Int) : Nat → Nat → Int := fun s' j' => if s' = s ∧ j' = j then v else R s' j'
theorem updR_same (R : Nat → Nat → Int) (s j : Nat) (v : Int) : updR R s j v s j = v := by unfold updR; rw [if_pos ⟨rfl, rfl⟩]
theorem updR_other {R : Nat → Nat → Int} {s j : Nat} {v : Int} {s' j' : Nat} (h : ¬ (s' = s ∧ j' = j)) : updR R s j v s' j' = R s' j' := by unfold updR; rw [if_neg h]
theorem bit_ge {s k : Nat} (h : bit s k = 1) : 2 ^ k ≤ s := by
  unfold bit at h
  rcases Nat.lt_or_ge s (2 ^ k) with h1 | h1
  · rw [Nat.div_eq_of_lt h1] at h; cases h
  · exact h1
theorem bestK_same {zs : List (List Int)} {R R' : Nat → Nat → Int} {s j : Nat} (h : ∀ s' k, s' < s → R' s' k = R s' k) : ∀ K, bestK zs R' s j K = bestK zs R s j K
  | 0 => rfl
  | k + 1 => by
    have hw : bit s k ≠ 0 → wayF zs R' s j k = wayF zs R s j k := fun hb => by
      have h1 : bit s k = 1 := by have := bit_lt s k; omega
      have := bit_ge h1
      have hp := Nat.two_pow_pos k
      unfold wayF
      rw [h (s - 2 ^ k) k (by omega)]
    show (if _ then _ else _) = (if _ then _ else _)
    rw [bestK_same h k]
    split
    · rfl
    · rename_i hc
      rw [hw (by omega)]
theorem rstep_same {zs : List (List Int)} {R R' : Nat → Nat → Int} {s j : Nat} (h : ∀ s' k, s' < s → R' s' k = R s' k) : rstep zs R' s j = rstep zs R s j := by
  unfold rstep
  rw [bestK_same h]
theorem rdone_put {zs : List (List Int)} {R : Nat → Nat → Int} {s j : Nat} {v : Int} (h : RDone zs R s j) (hv : v = rstep zs R s j) (h0 : 0 ≤ v) (h1 : v ≤ ((s : Int) + 1) * 1000000000) : RDone zs (updR R s j v) s (j + 1) := by
  intro s' j' c1 c2
  have hle : s' ≤ s := by omega
  have e : rstep zs (updR R s j v) s' j' = rstep zs R s' j' := rstep_same (fun t k ht => updR_other (by omega))
  rw [e]
  by_cases hx : s' = s ∧ j' = j
  · obtain ⟨rfl, rfl⟩ := hx
    rw [updR_same]
    exact ⟨hv, h0, h1⟩
  · rw [updR_other hx]
    exact h s' j' c1 (by omega)
theorem rdone_up {zs : List (List Int)} {R : Nat → Nat → Int} {s : Nat} (h : RDone zs R s zs.length) : RDone zs R (s + 1) 0 := by
  intro s' j' c1 c2
  exact h s' j' c1 (by omega)
theorem rdone_zero (zs : List (List Int)) (R : Nat → Nat → Int) : RDone zs R 0 0 := by
  intro s' j' c1 c2
  omega
/-- What the best is. -/
theorem bestK_words {zs : List (List Int)} {R : Nat → Nat → Int} {s j : Nat} (hw : ∀ k, 1 ≤ k → bit s k = 1 → k < zs.length → 0 ≤ wayF zs R s j k) : ∀ K, K ≤ zs.length →
    (bestK zs R s j K = -1 ∧ (∀ k, 1 ≤ k → k < K → bit s k = 0)) ∨ ((∃ k, 1 ≤ k ∧ k < K ∧ bit s k = 1 ∧ bestK zs R s j K = wayF zs R s j k) ∧ ∀ k, 1 ≤ k → k < K → bit s k = 1 → bestK zs R s j K ≤ wayF zs R s j k)
  | 0, _ => .inl ⟨rfl, fun k h1 h2 => by omega⟩
  | K + 1, hK => by
    have ih := bestK_words hw K (by omega)
    by_cases hc : K = 0 ∨ bit s K = 0
    · have e : bestK zs R s j (K + 1) = bestK zs R s j K := by
        show (if _ then _ else _) = _
        rw [if_pos hc]
      rw [e]
      rcases ih with ⟨a, b⟩ | ⟨⟨k, k1, k2, k3, k4⟩, b⟩
      · refine .inl ⟨a, fun k h1 h2 => ?_⟩
        rcases Nat.lt_or_ge k K with h | h
        · exact b k h1 h
        · obtain rfl : k = K := by omega
          omega
      · refine .inr ⟨⟨k, k1, by omega, k3, k4⟩, fun i h1 h2 h3 => ?_⟩
        rcases Nat.lt_or_ge i K with h | h
        · exact b i h1 h h3
        · obtain rfl : i = K := by omega
          omega
    · have hb : bit s K = 1 := by have := bit_lt s K; omega
      have hw0 := hw K (by omega) hb (by omega)
      have e : bestK zs R s j (K + 1) = if bestK zs R s j K < 0 ∨ wayF zs R s j K < bestK zs R s j K then wayF zs R s j K else bestK zs R s j K := by
        show (if _ then _ else _) = _
        rw [if_neg hc]
      rw [e]
      refine .inr ?_
      rcases ih with ⟨a, b⟩ | ⟨⟨k, k1, k2, k3, k4⟩, b⟩
      · rw [a, if_pos (by omega)]
        refine ⟨⟨K, by omega, by omega, hb, rfl⟩, fun i h1 h2 h3 => ?_⟩
        rcases Nat.lt_or_ge i K with h | h
        · have := b i h1 h
          omega
        · obtain rfl : i = K := by omega
          exact Int.le_refl _
      · have hk0 := hw k k1 k3 (by omega)
        split
        · refine ⟨⟨K, by omega, by omega, hb, rfl⟩, fun i h1 h2 h3 => ?_⟩
          rcases Nat.lt_or_ge i K with h | h
          · have := b i h1 h h3
            omega
          · obtain rfl : i = K := by omega
            exact Int.le_refl _
        · refine ⟨⟨k, k1, by omega, k3, k4⟩, fun i h1 h2 h3 => ?_⟩
          rcases Nat.lt_or_ge i K with h | h
          · exact b i h1 h h3
          · obtain rfl : i = K := by omega
            omega
theorem compl_bit {n s x : Nat} (hs : s < 2 ^ n) (hx : x < n) : bit (2 ^ n - 1 - s) x = 1 - bit s x := by
  have e : ∀ n i, bit n i = (n.testBit i).toNat := by
    intro n i
    unfold bit
    rw [Nat.testBit_eq_decide_div_mod_eq]
    have := Nat.mod_lt (n / 2 ^ i) (show 0 < 2 by omega)
    by_cases h : n / 2 ^ i % 2 = 1
    · rw [h]; rfl
    · rw [decide_eq_false h]
      show _ = 0
      omega
  rw [e, e, show 2 ^ n - 1 - s = 2 ^ n - (s + 1) by omega, Nat.testBit_two_pow_sub_succ hs, decide_eq_true hx]
  cases s.testBit x <;> rfl
theorem bit_sub {s k : Nat} (h : bit s k = 1) : bit (s - 2 ^ k) k = 0 ∧ ∀ x, x ≠ k → bit (s - 2 ^ k) x = bit s x := by
  have hge := bit_ge h
  obtain ⟨t, rfl⟩ : ∃ t, s = t + 2 ^ k := ⟨s - 2 ^ k, by omega⟩
  have ht : bit t k = 0 := by
    unfold bit at *
    rw [Nat.add_div_right _ (Nat.two_pow_pos k)] at h
    omega
  rw [Nat.add_sub_cancel]
  exact ⟨ht, fun x hx => (bit_other ht hx).symm⟩
/-- The two tables tell the same, and the same next stop. -/
theorem tables {zs : List (List Int)} {B : Nat → Nat → Leg} {R : Nat → Nat → Int} (hg : ∀ r ∈ zs, r.length = zs.length ∧ ∀ x ∈ r, 0 ≤ x ∧ x ≤ 1000000000) (hB : DoneAll zs B) (hR : RDone zs R (2 ^ zs.length) 0) (h2 : 2 ≤ zs.length) :
    ∀ s, s < 2 ^ zs.length → bit s 0 = 0 → ∀ j, j < zs.length → bit s j = 0 →
      R s j = (B (all zs - s) j).1 ∧ (s ≠ 0 → ∃ k, 1 ≤ k ∧ k < zs.length ∧ bit s k = 1 ∧ (B (all zs - s) j).2 = (k : Int) ∧ wayF zs R s j k = R s j ∧ ∀ i, 1 ≤ i → i < k → bit s i = 1 → wayF zs R s j i ≠ R s j) := by
  intro s
  induction s using Nat.strongRecOn with
  | _ s ih =>
    intro hs b0 j hj bj
    have hal : all zs = 2 ^ zs.length - 1 := rfl
    obtain ⟨eR, _, _⟩ := hR s j hj (.inl hs)
    have c0 : bit (all zs - s) 0 = 1 := by rw [hal, compl_bit hs (by omega), b0]
    have cj : bit (all zs - s) j = 1 := by rw [hal, compl_bit hs hj, bj]
    obtain ⟨eB, _, _⟩ := hB (all zs - s) j (Nat.sub_le _ _) hj c0 cj (by
      rcases Nat.eq_zero_or_pos (all zs - s) with h | h
      · rw [h] at c0
        unfold bit at c0
        simp at c0
      · exact .inl h)
    by_cases hs0 : s = 0
    · subst hs0
      refine ⟨?_, fun h => absurd rfl h⟩
      rw [eR, eB]
      unfold rstep stepF
      rw [if_pos rfl, if_pos (Nat.sub_zero _)]
    · have hne : all zs - s ≠ all zs := by omega
      have e2 : B (all zs - s) j = leastL (waysF zs B (all zs - s) j zs.length) := by
        rw [eB]
        unfold stepF
        rw [if_neg hne]
      -- a way over k is the same in both
      have same : ∀ k, k < zs.length → bit s k = 1 → 1 ≤ k ∧ wayF zs R s j k = fr zs j k + (B (all zs - s + 2 ^ k) k).1 ∧ 0 ≤ wayF zs R s j k := by
        intro k hk bk
        have hk1 : 1 ≤ k := by
          rcases Nat.eq_zero_or_pos k with rfl | h
          · omega
          · exact h
        have hge := bit_ge bk
        obtain ⟨s1, s2⟩ := bit_sub bk
        have hp := Nat.two_pow_pos k
        have hrec := (ih (s - 2 ^ k) (by omega) (by omega) (by rw [s2 0 (by omega)]; exact b0) k hk s1).1
        have hb := (hR (s - 2 ^ k) k hk (.inl (by omega))).2.1
        have hf := (fr_bound hg hj hk).1
        refine ⟨hk1, ?_, ?_⟩
        · unfold wayF
          rw [hrec, show all zs - (s - 2 ^ k) = all zs - s + 2 ^ k by omega]
        · unfold wayF
          omega
      have hw : ∀ k, 1 ≤ k → bit s k = 1 → k < zs.length → 0 ≤ wayF zs R s j k := fun k _ bk hk => (same k hk bk).2.2
      have inway : ∀ k, k < zs.length → bit s k = 1 → (wayF zs R s j k, (k : Int)) ∈ waysF zs B (all zs - s) j zs.length := by
        intro k hk bk
        rw [(same k hk bk).2.1]
        exact mem_ways (by rw [hal, compl_bit hs hk, bk]) zs.length hk
      have hex : ∃ k, k < zs.length ∧ bit s k = 1 := by
        obtain ⟨k, k1, k2⟩ := lacks_one zs.length (all zs - s) (by omega) (by omega)
        refine ⟨k, k1, ?_⟩
        rw [hal, compl_bit hs k1] at k2
        have := bit_lt s k
        omega
      obtain ⟨k0, k01, k02⟩ := hex
      have hnn : waysF zs B (all zs - s) j zs.length ≠ [] := fun e => by
        have := inway k0 k01 k02
        rw [e] at this
        cases this
      obtain ⟨m, m1, m2, m3⟩ := ways_mem zs.length (leastL_mem hnn)
      have bm : bit s m = 1 := by
        rw [hal, compl_bit hs m1] at m2
        have := bit_lt s m
        omega
      obtain ⟨m4, m5, m6⟩ := same m m1 bm
      rw [← m5] at m3
      have hle : ∀ k, k < zs.length → bit s k = 1 → wayF zs R s j m ≤ wayF zs R s j k ∧ (wayF zs R s j m = wayF zs R s j k → m ≤ k) := by
        intro k hk bk
        have := leastL_le (inway k hk bk)
        rw [m3] at this
        unfold better at this
        simp only [Bool.or_eq_false_iff, Bool.and_eq_false_iff, decide_eq_false_iff_not] at this
        omega
      have hbest : bestK zs R s j zs.length = wayF zs R s j m := by
        rcases bestK_words hw zs.length (Nat.le_refl _) with ⟨_, b⟩ | ⟨⟨k, k1, k2, k3, k4⟩, b⟩
        · have := b m m4 m1
          omega
        · have h1 := b m m4 m1 bm
          have h2 := (hle k k2 k3).1
          omega
      have eRs : R s j = wayF zs R s j m := by
        rw [eR]
        unfold rstep
        rw [if_neg hs0, hbest, if_neg (by omega)]
      rw [e2, m3]
      refine ⟨eRs, fun _ => ⟨m, m4, m1, bm, rfl, eRs.symm, fun i i1 i2 i3 he => ?_⟩⟩
      have := (hle i (by omega) i3).2 (by rw [he, eRs])
      omega
end Go.Proofs.Ytoopoecopahcbaa.Tr
