/- Plain laws on the model's floats (float64): signs, finiteness, order. No condition. -/
import Derived.Laws.FloatArith
namespace Go.Proofs.Ytoopoecopahcbaa.Fl
open Go Ieee
set_option linter.unusedVariables false
set_option linter.unusedSimpArgs false

abbrev D : Format := Ieee.double
theorem sw : D.signWeight = 9223372036854775808 := by decide
theorem bi : D.binade = 4503599627370496 := by decide
theorem ir : D.infRung = 9218868437227405312 := by decide
theorem lp : D.leastPlace = -1074 := by decide
theorem fb : D.fractionBits = 52 := rfl

/-- The rung, the sign of a word. -/
theorem read_def (b : Nat) : D.read b =
    (if b % 9223372036854775808 < 4503599627370496 then .number (b / 9223372036854775808 % 2 == 1) (b % 9223372036854775808) (-1074)
    else if b % 9223372036854775808 < 9218868437227405312 then
      .number (b / 9223372036854775808 % 2 == 1) (4503599627370496 + b % 9223372036854775808 % 4503599627370496) (-1074 + (b % 9223372036854775808 / 4503599627370496 - 1 : Nat))
    else if b % 9223372036854775808 = 9218868437227405312 then .infinity (b / 9223372036854775808 % 2 == 1)
    else .nan (b / 9223372036854775808 % 2 == 1) (b % 9223372036854775808 - 9218868437227405312)) := by
  unfold Format.read
  rw [sw, bi, ir, lp]

def isN (b : Nat) : Prop := (D.read b).isNaN = true
def fin (b : Nat) : Bool := match D.read b with | .number .. => true | _ => false
/-- A number or an infinity, not negative. -/
def Nn (b : Nat) : Prop := b ≤ 9218868437227405312

theorem nn_read {b : Nat} (h : Nn b) : (∃ m i, D.read b = .number false m i) ∨ D.read b = .infinity false := by
  unfold Nn at h
  have h1 : b % 9223372036854775808 = b := Nat.mod_eq_of_lt (by omega)
  have h2 : b / 9223372036854775808 = 0 := Nat.div_eq_of_lt (by omega)
  rw [read_def, h1, h2]
  split
  · exact .inl ⟨_, _, rfl⟩
  · split
    · exact .inl ⟨_, _, rfl⟩
    · split
      · exact .inr rfl
      · omega
theorem word_pos (r : Nat) : D.word false r = r := rfl
theorem nearest_nn (m : Nat) (p : Int) : Nn (D.nearest false m p) := by
  unfold Format.nearest Nn
  split
  · rw [word_pos]; omega
  · dsimp only
    rw [word_pos, ir]
    exact Nat.min_le_right _ _
theorem mul_self {b : Nat} (h : fin b = true) : ∃ r, D.mul b b = some r ∧ Nn r := by
  unfold fin at h
  unfold Format.mul
  cases hd : D.read b with
  | number s m i =>
    refine ⟨D.nearest (s ^^ s) (m * m) (i + i), rfl, ?_⟩
    rw [Bool.xor_self]
    exact nearest_nn _ _
  | infinity s => rw [hd] at h; cases h
  | nan s t => rw [hd] at h; cases h
theorem add_nn {a b : Nat} (ha : Nn a) (hb : Nn b) : ∃ r, D.add a b = some r ∧ Nn r := by
  unfold Format.add
  rcases nn_read ha with ⟨m, i, ea⟩ | ea <;> rcases nn_read hb with ⟨n, j, eb⟩ | eb <;> rw [ea, eb]
  · have h0 : 0 ≤ signed false m (i - min i j).toNat + signed false n (j - min i j).toNat := by
      simp only [signed]
      exact Int.add_nonneg (Int.natCast_nonneg _) (Int.natCast_nonneg _)
    generalize hT : signed false m (i - min i j).toNat + signed false n (j - min i j).toNat = T at h0
    refine ⟨D.nearest false T.natAbs (min i j), ?_, nearest_nn _ _⟩
    show some (D.write (.number (if signed false m (i - min i j).toNat + signed false n (j - min i j).toNat = 0 then (false && false) else decide (signed false m (i - min i j).toNat + signed false n (j - min i j).toNat < 0)) (signed false m (i - min i j).toNat + signed false n (j - min i j).toNat).natAbs (min i j))) = _
    rw [hT]
    have hs : (if T = 0 then (false && false) else decide (T < 0)) = false := by
      split
      · rfl
      · exact decide_eq_false (by omega)
    rw [hs]
    rfl
  all_goals exact ⟨_, rfl, by unfold Nn; decide⟩

/-- A number or an infinity is itself, a NaN nothing. -/
theorem order_self (b : Nat) : D.order b b = if (D.read b).isNaN then none else some .eq := by
  unfold Format.order
  cases hd : D.read b with
  | number s m i =>
    simp only [Datum.order, Datum.isNaN]
    simp
  | infinity s => simp [Datum.order, Datum.isNaN]
  | nan s t => simp [Datum.order, Datum.isNaN]
theorem fin_notN {b : Nat} (h : fin b = true) : (D.read b).isNaN = false := by
  unfold fin at h
  cases hd : D.read b <;> rw [hd] at h <;> simp_all [Datum.isNaN]
theorem sub_self {b : Nat} (h : fin b = true) : D.sub b b = some 0 := by
  unfold fin at h
  unfold Format.sub
  cases hd : D.read b with
  | number s m i =>
    have hT : signed s m (i - min i i).toNat + signed (!s) m (i - min i i).toNat = 0 := by
      cases s <;> simp [signed] <;> omega
    show some (D.write (.number (if signed s m (i - min i i).toNat + signed (!s) m (i - min i i).toNat = 0 then (s && !s) else decide (signed s m (i - min i i).toNat + signed (!s) m (i - min i i).toNat < 0)) (signed s m (i - min i i).toNat + signed (!s) m (i - min i i).toNat).natAbs (min i i))) = _
    rw [hT]
    cases s <;> rfl
  | infinity s => rw [hd] at h; cases h
  | nan s t => rw [hd] at h; cases h
theorem sub_none {b : Nat} (h : fin b = false) : D.sub b b = none := by
  unfold fin at h
  unfold Format.sub
  cases hd : D.read b with
  | number s m i => rw [hd] at h; cases h
  | infinity s => cases s <;> rfl
  | nan s t => rfl
theorem order_zero : D.order 0 0 = some .eq := by decide
theorem order_nan {a b : Nat} (h : (D.read a).isNaN = true) : D.order a b = none := by
  unfold Format.order
  cases hd : D.read a <;> rw [hd] at h <;> first | (cases h; done) | rfl
theorem nan_bits (t : Nat) : (D.read ((t % 2) * 9223372036854775808 + 9218868437227405312 + 1 + (t / 2) % 4503599627370495)).isNaN = true := by
  rw [read_def]
  have h1 : (t / 2) % 4503599627370495 < 4503599627370495 := Nat.mod_lt _ (by omega)
  generalize (t / 2) % 4503599627370495 = u at *
  have h2 : ((t % 2) * 9223372036854775808 + 9218868437227405312 + 1 + u) % 9223372036854775808 = 9218868437227405313 + u := by omega
  rw [h2, if_neg (by omega), if_neg (by omega), if_neg (by omega)]
  rfl
theorem big_pow (k : Nat) : 4503599627370496 ≤ 9007199254740991 * 2 ^ k := Nat.le_trans (show 4503599627370496 ≤ 9007199254740991 * 1 by decide) (Nat.mul_le_mul_left _ (Nat.one_le_two_pow))
/-- The words below infinity are in the order of their rungs. -/
theorem max_order {b : Nat} (hb : b < 18446744073709551616) (h : (D.read b).isNaN = false) : (D.order (b % 9223372036854775808) 9218868437227405311 == some .gt) = !fin b := by
  have e1 : D.read 9218868437227405311 = .number false 9007199254740991 971 := by decide
  unfold Format.order
  rw [e1]
  have e2 : b % 9223372036854775808 % 9223372036854775808 = b % 9223372036854775808 := Nat.mod_mod _ _
  have e3 : b % 9223372036854775808 / 9223372036854775808 = 0 := Nat.div_eq_of_lt (Nat.mod_lt _ (by omega))
  have er := read_def b
  have es := read_def (b % 9223372036854775808)
  rw [e2, e3] at es
  have hr : b % 9223372036854775808 < 9223372036854775808 := Nat.mod_lt _ (by omega)
  generalize b % 9223372036854775808 = r at *
  by_cases c1 : r < 4503599627370496
  · rw [if_pos c1] at er es
    have hf : fin b = true := by unfold fin; rw [er]
    rw [es, hf]
    simp only [Datum.order]
    have h1 : min (-1074 : Int) 971 = -1074 := by decide
    rw [h1]
    have h2 : ((-1074 : Int) - -1074).toNat = 0 := by decide
    have h3 : ((971 : Int) - -1074).toNat = 2045 := by decide
    rw [h2, h3]
    have h4 : signed (0 % 2 == 1) r 0 < signed false 9007199254740991 2045 := by
      show ((r <<< 0 : Nat) : Int) < ((9007199254740991 <<< 2045 : Nat) : Int)
      rw [Nat.shiftLeft_zero]
      refine Int.ofNat_lt.2 (Nat.lt_of_lt_of_le c1 ?_)
      rw [Nat.shiftLeft_eq]
      exact big_pow 2045
    rw [show compare (signed (0 % 2 == 1) r 0) (signed false 9007199254740991 2045) = .lt from Int.compare_eq_lt.2 h4]
    rfl
  · rw [if_neg c1] at er es
    by_cases c2 : r < 9218868437227405312
    · rw [if_pos c2] at er es
      have hf : fin b = true := by unfold fin; rw [er]
      rw [es, hf]
      simp only [Datum.order]
      have hk : r / 4503599627370496 - 1 ≤ 2045 := by omega
      generalize r / 4503599627370496 - 1 = k at *
      have hm : 4503599627370496 + r % 4503599627370496 ≤ 9007199254740991 := by
        have := Nat.mod_lt r (show 0 < 4503599627370496 by decide)
        omega
      generalize 4503599627370496 + r % 4503599627370496 = m at *
      have h1 : min (-1074 + (k : Int)) 971 = -1074 + (k : Int) := by omega
      rw [h1]
      have h2 : ((-1074 + (k : Int)) - (-1074 + (k : Int))).toNat = 0 := by omega
      have h3 : ((971 : Int) - (-1074 + (k : Int))).toNat = 2045 - k := by omega
      rw [h2, h3]
      have h4 : signed (0 % 2 == 1) m 0 ≤ signed false 9007199254740991 (2045 - k) := by
        show ((m <<< 0 : Nat) : Int) ≤ ((9007199254740991 <<< (2045 - k) : Nat) : Int)
        rw [Nat.shiftLeft_zero]
        refine Int.ofNat_le.2 (Nat.le_trans hm ?_)
        rw [Nat.shiftLeft_eq]
        exact Nat.le_trans (show 9007199254740991 ≤ 9007199254740991 * 1 by decide) (Nat.mul_le_mul_left _ (Nat.one_le_two_pow))
      have h5 : compare (signed (0 % 2 == 1) m 0) (signed false 9007199254740991 (2045 - k)) ≠ .gt := fun hg => by
        have := Int.compare_eq_gt.1 hg
        omega
      cases hc : compare (signed (0 % 2 == 1) m 0) (signed false 9007199254740991 (2045 - k)) with
      | gt => exact absurd hc h5
      | lt => rfl
      | eq => rfl
    · rw [if_neg c2] at er es
      by_cases c3 : r = 9218868437227405312
      · rw [if_pos c3] at er es
        have hf : fin b = false := by unfold fin; rw [er]
        rw [es, hf]
        rfl
      · rw [if_neg c3] at er
        rw [er] at h
        cases h
end Go.Proofs.Ytoopoecopahcbaa.Fl
