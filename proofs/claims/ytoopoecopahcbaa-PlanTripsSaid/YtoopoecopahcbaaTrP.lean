/- The shortest round, plainly: the table of plan.Trip. No condition. -/
import Derived.Test.YtoopoecopahcbaaTrB
import Derived.Laws.Bits128
namespace Go.Proofs.Ytoopoecopahcbaa.Tr
open Go Go.RowKit
set_option linter.unusedVariables false
set_option linter.unusedSimpArgs false

def fr (zs : List (List Int)) (i j : Nat) : Int := (zs.getD i []).getD j 0
def bit (s j : Nat) : Nat := s / 2 ^ j % 2
/-- The ways on from a stop through the set's rest, up to stop j. -/
def waysF (zs : List (List Int)) (B : Nat → Nat → Leg) (s a : Nat) : Nat → List Leg
  | 0 => []
  | j + 1 => waysF zs B s a j ++ (if bit s j = 0 then [(fr zs a j + (B (s + 2 ^ j) j).1, (j : Int))] else [])
def all (zs : List (List Int)) : Nat := 2 ^ zs.length - 1
def stepF (zs : List (List Int)) (B : Nat → Nat → Leg) (s a : Nat) : Leg :=
  if s = all zs then (fr zs a 0, -1) else leastL (waysF zs B s a zs.length)
/-- All that stands at later sets, and at this one below stop a, is right. -/
def Done (zs : List (List Int)) (B : Nat → Nat → Leg) (s a : Nat) : Prop :=
  ∀ s' a', s' ≤ all zs → a' < zs.length → bit s' 0 = 1 → bit s' a' = 1 → s < s' ∨ s = s' ∧ a' < a → B s' a' = stepF zs B s' a' ∧ 0 ≤ (B s' a').1 ∧ (B s' a').1 ≤ ((all zs - s' : Nat) + 1 : Int) * 1000000000
def upd (B : Nat → Nat → Leg) (s a : Nat) (v : Leg) : Nat → Nat → Leg := fun s' a' => if s' = s ∧ a' = a then v else B s' a'
theorem upd_same (B : Nat → Nat → Leg) (s a : Nat) (v : Leg) : upd B s a v s a = v := by unfold upd; rw [if_pos ⟨rfl, rfl⟩]
theorem upd_other {B : Nat → Nat → Leg} {s a : Nat} {v : Leg} {s' a' : Nat} (h : ¬ (s' = s ∧ a' = a)) : upd B s a v s' a' = B s' a' := by unfold upd; rw [if_neg h]
theorem ways_same {zs : List (List Int)} {B B' : Nat → Nat → Leg} {s a : Nat} (h : ∀ s' j, s < s' → B' s' j = B s' j) : ∀ k, waysF zs B' s a k = waysF zs B s a k
  | 0 => rfl
  | k + 1 => by
    show waysF zs B' s a k ++ _ = waysF zs B s a k ++ _
    rw [ways_same h k, h (s + 2 ^ k) k (by have := Nat.two_pow_pos k; omega)]
theorem step_same {zs : List (List Int)} {B B' : Nat → Nat → Leg} {s a : Nat} (h : ∀ s' j, s < s' → B' s' j = B s' j) : stepF zs B' s a = stepF zs B s a := by
  unfold stepF
  rw [ways_same h]
theorem done_put {zs : List (List Int)} {B : Nat → Nat → Leg} {s a : Nat} {v : Leg} (h : Done zs B s a) (hv : v = stepF zs B s a) (h0 : 0 ≤ v.1) (h1 : v.1 ≤ ((all zs - s : Nat) + 1 : Int) * 1000000000) : Done zs (upd B s a v) s (a + 1) := by
  intro s' a' c1 c2 c3 c4 c5
  have e : stepF zs (upd B s a v) s' a' = stepF zs B s' a' := step_same (fun t j ht => upd_other (by omega))
  rw [e]
  by_cases hx : s' = s ∧ a' = a
  · obtain ⟨rfl, rfl⟩ := hx
    rw [upd_same]
    exact ⟨hv, h0, h1⟩
  · rw [upd_other hx]
    exact h s' a' c1 c2 c3 c4 (by omega)
theorem done_skip {zs : List (List Int)} {B : Nat → Nat → Leg} {s a : Nat} (h : Done zs B s a) (hs : bit s 0 = 0 ∨ bit s a = 0) : Done zs B s (a + 1) := by
  intro s' a' c1 c2 c3 c4 c5
  refine h s' a' c1 c2 c3 c4 ?_
  rcases c5 with c5 | ⟨rfl, c5⟩
  · exact .inl c5
  · refine .inr ⟨rfl, ?_⟩
    rcases Nat.lt_or_ge a' a with h1 | h1
    · exact h1
    · obtain rfl : a' = a := by omega
      omega
theorem done_down {zs : List (List Int)} {B : Nat → Nat → Leg} {s : Nat} (h : Done zs B (s + 1) zs.length) : Done zs B s 0 := by
  intro s' a' c1 c2 c3 c4 c5
  exact h s' a' c1 c2 c3 c4 (by omega)
theorem done_first (zs : List (List Int)) (B : Nat → Nat → Leg) : Done zs B (all zs) 0 := by
  intro s' a' c1 c2 c3 c4 c5
  omega
theorem done_stays {zs : List (List Int)} {B B' : Nat → Nat → Leg} {s a : Nat} (h : Done zs B s a) (e : ∀ s' a', B' s' a' = B s' a') : Done zs B' s a := by
  obtain rfl : B' = B := funext fun s' => funext fun a' => e s' a'
  exact h

/-! ### Bits -/
theorem bit_lt (s j : Nat) : bit s j < 2 := Nat.mod_lt _ (by omega)
theorem bits_and1 (n : Int) : bits .and .i64 n 1 = n % 2 := by
  have h1 : (BitVec.ofInt 64 1).toNat = 2 ^ 1 - 1 := by decide
  have key : (BitVec.ofInt 64 n &&& BitVec.ofInt 64 1).toNat = (n % ((2 ^ 64 : Nat) : Int)).toNat % 2 ^ 1 := by
    rw [BitVec.toNat_and, BitVec.toNat_ofInt, h1, Nat.and_two_pow_sub_one_eq_mod]
  show IntKind.i64.wrap ((BitVec.ofInt 64 n &&& BitVec.ofInt 64 1).toNat : Nat) = n % 2
  rw [key, IntKind.wrap_i64]
  omega
theorem ofInt_i64 (a : Nat) (ha : a < 4611686018427387904) : (BitVec.ofInt 64 (a : Int)).toNat = a := by
  rw [BitVec.ofInt_natCast, BitVec.toNat_ofNat]; exact Nat.mod_eq_of_lt (by omega)
theorem bits_or_nat (a b : Nat) (ha : a < 4611686018427387904) (hb : b < 4611686018427387904) : bits .or .i64 (a : Int) (b : Int) = ((a ||| b : Nat) : Int) := by
  have hx : a ||| b < 2 ^ 62 := Nat.or_lt_two_pow (by omega) (by omega)
  show IntKind.i64.wrap ((BitVec.ofInt 64 (a : Int) ||| BitVec.ofInt 64 (b : Int)).toNat : Int) = _
  rw [BitVec.toNat_or, ofInt_i64 a ha, ofInt_i64 b hb, IntKind.wrap_i64]
  omega
theorem or_bit {s j : Nat} (h : bit s j = 0) : s ||| 2 ^ j = s + 2 ^ j := by
  have e1 : s = 2 ^ (j + 1) * (s / 2 ^ (j + 1)) + s % 2 ^ j := by
    have h1 := Nat.div_add_mod s (2 ^ j)
    have h2 := Nat.div_add_mod (s / 2 ^ j) 2
    have h3 : s / 2 ^ j / 2 = s / 2 ^ (j + 1) := by rw [Nat.div_div_eq_div_mul, Nat.pow_succ]
    unfold bit at h
    rw [h, Nat.add_zero, h3] at h2
    rw [← h2, ← Nat.mul_assoc] at h1
    rw [Nat.pow_succ]
    exact h1.symm
  have hlt : s % 2 ^ j < 2 ^ j := Nat.mod_lt _ (Nat.two_pow_pos j)
  generalize s / 2 ^ (j + 1) = hi at *
  generalize s % 2 ^ j = lo at *
  subst e1
  have hlt2 : lo < 2 ^ (j + 1) := by rw [Nat.pow_succ]; omega
  have hlt3 : 2 ^ j * 1 + lo < 2 ^ (j + 1) := by rw [Nat.pow_succ]; omega
  have a1 := Nat.two_pow_add_eq_or_of_lt (i := j + 1) hlt2 hi
  have a2 := Nat.two_pow_add_eq_or_of_lt (i := j + 1) hlt3 hi
  have a3 := Nat.two_pow_add_eq_or_of_lt (i := j) hlt 1
  rw [a1, Nat.or_assoc, Nat.or_comm lo, ← Nat.mul_one (2 ^ j), ← a3, ← a2, Nat.mul_one]
  omega
theorem bit_self {s j : Nat} (h : bit s j = 0) : bit (s + 2 ^ j) j = 1 := by
  unfold bit at *
  rw [Nat.add_div_right _ (Nat.two_pow_pos j)]
  omega
theorem bit_other {s j k : Nat} (h : bit s j = 0) (hk : k ≠ j) : bit (s + 2 ^ j) k = bit s k := by
  have e : ∀ n i, bit n i = (n.testBit i).toNat := by
    intro n i
    unfold bit
    rw [Nat.testBit_eq_decide_div_mod_eq]
    have := Nat.mod_lt (n / 2 ^ i) (show 0 < 2 by omega)
    by_cases h : n / 2 ^ i % 2 = 1
    · rw [h]; rfl
    · rw [decide_eq_false h]
      show _ = 0
      omega
  rw [← or_bit h, e, e, Nat.testBit_or, Nat.testBit_two_pow]
  rw [show decide (j = k) = false from decide_eq_false (Ne.symm hk), Bool.or_false]
theorem bit_le {s n j : Nat} (hs : s < 2 ^ n) (hj : j < n) (h : bit s j = 0) : s + 2 ^ j < 2 ^ n := by
  rw [← or_bit h]
  exact Nat.or_lt_two_pow hs ((Nat.pow_lt_pow_iff_right (by omega)).2 hj)

/-! ### What the table's answers are worth -/
theorem fr_bound {zs : List (List Int)} (hg : ∀ r ∈ zs, r.length = zs.length ∧ ∀ x ∈ r, 0 ≤ x ∧ x ≤ 1000000000) {i j : Nat} (hi : i < zs.length) (hj : j < zs.length) : 0 ≤ fr zs i j ∧ fr zs i j ≤ 1000000000 := by
  unfold fr
  have e : zs.getD i [] = zs[i] := by rw [List.getD_eq_getElem?_getD, List.getElem?_eq_getElem hi]; rfl
  obtain ⟨a, b⟩ := hg zs[i] (List.getElem_mem hi)
  rw [e, List.getD_eq_getElem?_getD, List.getElem?_eq_getElem (by omega)]
  exact b _ (List.getElem_mem _)
theorem leastF_mem : ∀ (l : List Leg) (b : Leg), leastF b l = b ∨ leastF b l ∈ l
  | [], b => .inl rfl
  | x :: r, b => by
    unfold leastF
    rcases leastF_mem r (if better x b = true then x else b) with h | h
    · rw [h]
      split
      · exact .inr (List.mem_cons_self ..)
      · exact .inl rfl
    · exact .inr (List.mem_cons_of_mem _ h)
theorem leastL_mem {l : List Leg} (h : l ≠ []) : leastL l ∈ l := by
  cases l with
  | nil => exact absurd rfl h
  | cons x r =>
    show leastF x r ∈ x :: r
    rcases leastF_mem r x with e | e
    · rw [e]; exact List.mem_cons_self ..
    · exact List.mem_cons_of_mem _ e
theorem ways_mem {zs : List (List Int)} {B : Nat → Nat → Leg} {s a : Nat} {x : Leg} : ∀ k, x ∈ waysF zs B s a k → ∃ j, j < k ∧ bit s j = 0 ∧ x = (fr zs a j + (B (s + 2 ^ j) j).1, (j : Int))
  | 0, h => by cases h
  | k + 1, h => by
    have h' : x ∈ waysF zs B s a k ++ (if bit s k = 0 then [(fr zs a k + (B (s + 2 ^ k) k).1, (k : Int))] else []) := h
    rcases List.mem_append.1 h' with h1 | h1
    · obtain ⟨j, a1, a2, a3⟩ := ways_mem k h1
      exact ⟨j, by omega, a2, a3⟩
    · split at h1
      · rename_i hb
        exact ⟨k, by omega, hb, List.mem_singleton.1 h1⟩
      · cases h1
theorem mem_ways {zs : List (List Int)} {B : Nat → Nat → Leg} {s a : Nat} {j : Nat} (hb : bit s j = 0) : ∀ k, j < k → (fr zs a j + (B (s + 2 ^ j) j).1, (j : Int)) ∈ waysF zs B s a k
  | 0, h => by omega
  | k + 1, h => by
    show _ ∈ waysF zs B s a k ++ _
    rcases Nat.lt_or_ge j k with h1 | h1
    · exact List.mem_append_left _ (mem_ways hb k h1)
    · obtain rfl : j = k := by omega
      rw [if_pos hb]
      exact List.mem_append_right _ (List.mem_singleton.2 rfl)
/-- A set that is not all lacks a stop. -/
theorem lacks_one : ∀ (n s : Nat), s < 2 ^ n → s ≠ 2 ^ n - 1 → ∃ j, j < n ∧ bit s j = 0
  | 0, s, h, h' => by simp at h h'; omega
  | n + 1, s, h, h' => by
    by_cases h0 : s % 2 = 0
    · exact ⟨0, by omega, by unfold bit; simpa using h0⟩
    · have hp : 2 ^ (n + 1) = 2 * 2 ^ n := by rw [Nat.pow_succ, Nat.mul_comm]
      have := Nat.two_pow_pos n
      obtain ⟨j, a, b⟩ := lacks_one n (s / 2) (by omega) (by omega)
      refine ⟨j + 1, by omega, ?_⟩
      unfold bit at *
      rw [Nat.pow_succ, Nat.mul_comm, ← Nat.div_div_eq_div_mul]
      exact b
theorem all_lt (zs : List (List Int)) : all zs < 2 ^ zs.length := by unfold all; have := Nat.two_pow_pos zs.length; omega
theorem step_words {zs : List (List Int)} {B : Nat → Nat → Leg} {s a : Nat} (hg : ∀ r ∈ zs, r.length = zs.length ∧ ∀ x ∈ r, 0 ≤ x ∧ x ≤ 1000000000) (hs : s < all zs) (ha : a < zs.length) (h0 : bit s 0 = 1) (h : Done zs B s a) :
    ∃ j, j < zs.length ∧ bit s j = 0 ∧ 0 < j ∧ leastL (waysF zs B s a zs.length) = (fr zs a j + (B (s + 2 ^ j) j).1, (j : Int)) ∧ s + 2 ^ j ≤ all zs ∧ 0 ≤ fr zs a j + (B (s + 2 ^ j) j).1 ∧ fr zs a j + (B (s + 2 ^ j) j).1 ≤ ((all zs - s : Nat) + 1 : Int) * 1000000000 := by
  have hal := all_lt zs
  obtain ⟨i, hi, hb⟩ := lacks_one zs.length s (by omega) (by unfold all at hs; omega)
  have hne : waysF zs B s a zs.length ≠ [] := fun e => by
    have := mem_ways (zs := zs) (B := B) (a := a) hb zs.length hi
    rw [e] at this
    cases this
  obtain ⟨j, j1, j2, j3⟩ := ways_mem zs.length (leastL_mem hne)
  have hlt := bit_le (n := zs.length) (by omega) j1 j2
  have hle : s + 2 ^ j ≤ all zs := by unfold all; omega
  have hp := Nat.two_pow_pos j
  have hj0 : 0 < j := by
    rcases Nat.eq_zero_or_pos j with rfl | h
    · omega
    · exact h
  obtain ⟨_, f1, f2⟩ := h (s + 2 ^ j) j hle j1 (by rw [bit_other j2 (by omega)]; exact h0) (bit_self j2) (.inl (by omega))
  obtain ⟨g1, g2⟩ := fr_bound hg ha j1
  refine ⟨j, j1, j2, hj0, j3, hle, by omega, ?_⟩
  have : (all zs - (s + 2 ^ j)) + 1 ≤ all zs - s := by omega
  omega
/-- The table at the end, and the round that it tells. -/
def DoneAll (zs : List (List Int)) (B : Nat → Nat → Leg) : Prop := Done zs B 0 0
def tourF (zs : List (List Int)) (B : Nat → Nat → Leg) : Nat → Nat → Nat → List Int
  | 0, _, _ => []
  | k + 1, s, a => if s = all zs then [] else (B s a).2 :: tourF zs B k (s + 2 ^ (B s a).2.toNat) (B s a).2.toNat
theorem tour_end (zs : List (List Int)) (B : Nat → Nat → Leg) (k a : Nat) : tourF zs B k (all zs) a = [] := by
  cases k with
  | zero => rfl
  | succ k => unfold tourF; rw [if_pos rfl]
theorem tour_next {zs : List (List Int)} {B : Nat → Nat → Leg} {k s a : Nat} (hs : s ≠ all zs) : tourF zs B (k + 1) s a = (B s a).2 :: tourF zs B k (s + 2 ^ (B s a).2.toNat) (B s a).2.toNat := by
  show (if s = all zs then [] else _) = _
  rw [if_neg hs]
end Go.Proofs.Ytoopoecopahcbaa.Tr
