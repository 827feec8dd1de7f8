/- Plain laws on the model's floats (float64): products, sums, order, whole numbers of what is not negative. No condition. -/
import Derived.Test.YtoopoecopahcbaaFl2
namespace Go.Proofs.Ytoopoecopahcbaa.Fl
open Go Ieee
set_option linter.unusedVariables false
set_option linter.unusedSimpArgs false

/-- Finite and not negative; -0 too. -/
def Pf (b : Nat) : Prop := b < 9218868437227405312 ∨ b = 9223372036854775808
def Pi (b : Nat) : Prop := b ≤ 9218868437227405312 ∨ b = 9223372036854775808
def rz (b : Nat) : Nat := if b = 9223372036854775808 then 0 else b
theorem rz_le {b : Nat} (h : b ≤ 9218868437227405312) : rz b = b := by unfold rz; rw [if_neg (by omega)]
theorem read_num {b : Nat} (h : b < 9218868437227405312) : ∃ m i, D.read b = .number false m i ∧ -1074 ≤ i ∧ m * 2 ^ (i + 1074).toNat = Vr b := by
  have h1 : b % 9223372036854775808 = b := Nat.mod_eq_of_lt (by omega)
  have h2 : b / 9223372036854775808 = 0 := Nat.div_eq_of_lt (by omega)
  rw [read_def, h1, h2]
  by_cases c : b < 4503599627370496
  · rw [if_pos c]
    refine ⟨b, -1074, rfl, by omega, ?_⟩
    unfold Vr
    rw [if_pos c, show ((-1074 : Int) + 1074).toNat = 0 from rfl, Nat.pow_zero, Nat.mul_one]
  · rw [if_neg c, if_pos h]
    refine ⟨_, _, rfl, by omega, ?_⟩
    unfold Vr
    rw [if_neg c, show ((-1074 : Int) + ((b / 4503599627370496 - 1 : Nat) : Int) + 1074).toNat = b / 4503599627370496 - 1 by omega]
theorem read_pf {b : Nat} (h : Pf b) : ∃ s m i, D.read b = .number s m i ∧ (s = true → m = 0) ∧ -1074 ≤ i ∧ m * 2 ^ (i + 1074).toNat = Vr (rz b) := by
  rcases h with h | rfl
  · obtain ⟨m, i, e, hi, hV⟩ := read_num h
    exact ⟨false, m, i, e, (fun h => by cases h), hi, by rw [rz_le (by omega)]; exact hV⟩
  · exact ⟨true, 0, -1074, by decide, (fun _ => rfl), by omega, by rw [Nat.zero_mul]; rfl⟩
theorem signed_nn {s : Bool} {m : Nat} (h : s = true → m = 0) (k : Nat) : signed s m k = ((m * 2 ^ k : Nat) : Int) := by
  unfold signed
  cases s
  · rw [if_neg (by decide), Nat.shiftLeft_eq]
  · rw [h rfl, if_pos rfl, Nat.shiftLeft_eq, Nat.zero_mul]
    rfl
theorem write_pf {s : Bool} {m : Nat} {i : Int} (h : s = true → m = 0) : rz (D.write (.number s m i)) = rg m i ∧ Pi (D.write (.number s m i)) := by
  show rz (D.nearest s m i) = _ ∧ Pi (D.nearest s m i)
  by_cases hm : m = 0
  · subst hm
    rw [rg_zero]
    have e : D.nearest s 0 i = D.word s 0 := rfl
    rw [e]
    cases s
    · exact ⟨rfl, .inl (by decide)⟩
    · exact ⟨rfl, .inr (by decide)⟩
  · obtain rfl : s = false := by
      cases s
      · rfl
      · exact absurd (h rfl) hm
    have hl := rg_le m i
    exact ⟨rz_le hl, .inl hl⟩
def Mz (x y : Nat) : Nat := rg (Vr x * Vr y) (-2148)
def Az (x y : Nat) : Nat := rg (Vr x + Vr y) (-1074)
theorem exp_mul {m n a b : Nat} : m * n * 2 ^ (a + b) = m * 2 ^ a * (n * 2 ^ b) := by
  rw [Nat.pow_add]
  simp only [Nat.mul_assoc, Nat.mul_comm, Nat.mul_left_comm]
theorem mul_pf {a b : Nat} (ha : Pf a) (hb : Pf b) : ∃ r, D.mul a b = some r ∧ rz r = Mz (rz a) (rz b) ∧ Pi r := by
  obtain ⟨s, m, i, ea, hs, hi, hV⟩ := read_pf ha
  obtain ⟨t, n, j, eb, ht, hj, hW⟩ := read_pf hb
  have hx : (s ^^ t) = true → m * n = 0 := by
    intro h
    cases s
    · cases t
      · cases h
      · rw [ht rfl, Nat.mul_zero]
    · rw [hs rfl, Nat.zero_mul]
  obtain ⟨w1, w2⟩ := write_pf (i := i + j) hx
  refine ⟨D.write (.number (s ^^ t) (m * n) (i + j)), ?_, ?_, w2⟩
  · unfold Format.mul
    rw [ea, eb]
    rfl
  · rw [w1]
    unfold Mz
    refine rg_same (-2148) (by omega) (Int.le_refl _) ?_
    rw [← hV, ← hW, show ((-2148 : Int) - -2148).toNat = 0 from rfl, Nat.pow_zero, Nat.mul_one, show (i + j - -2148).toNat = (i + 1074).toNat + (j + 1074).toNat by omega]
    exact exp_mul
theorem add_pf {a b : Nat} (ha : Pf a) (hb : Pf b) : ∃ r, D.add a b = some r ∧ rz r = Az (rz a) (rz b) ∧ Pi r := by
  obtain ⟨s, m, i, ea, hs, hi, hV⟩ := read_pf ha
  obtain ⟨t, n, j, eb, ht, hj, hW⟩ := read_pf hb
  have hT : signed s m (i - min i j).toNat + signed t n (j - min i j).toNat = ((m * 2 ^ (i - min i j).toNat + n * 2 ^ (j - min i j).toNat : Nat) : Int) := by
    rw [signed_nn hs, signed_nn ht]
    rfl
  have hx : (if ((m * 2 ^ (i - min i j).toNat + n * 2 ^ (j - min i j).toNat : Nat) : Int) = 0 then (s && t) else decide (((m * 2 ^ (i - min i j).toNat + n * 2 ^ (j - min i j).toNat : Nat) : Int) < 0)) = true → m * 2 ^ (i - min i j).toNat + n * 2 ^ (j - min i j).toNat = 0 := by
    generalize m * 2 ^ (i - min i j).toNat + n * 2 ^ (j - min i j).toNat = N
    intro h
    split at h
    · omega
    · rw [decide_eq_true_eq] at h
      omega
  obtain ⟨w1, w2⟩ := write_pf (i := min i j) hx
  refine ⟨_, ?_, ?_, w2⟩
  · unfold Format.add
    rw [ea, eb]
    simp only [Datum.sum, Option.map_some]
    rw [hT]
    rfl
  · rw [w1]
    unfold Az
    refine rg_same (-1074) (by omega) (Int.le_refl _) ?_
    rw [← hV, ← hW, show ((-1074 : Int) - -1074).toNat = 0 from rfl, Nat.pow_zero, Nat.mul_one, Nat.add_mul, Nat.mul_assoc, Nat.mul_assoc, ← Nat.pow_add, ← Nat.pow_add,
      show (i - min i j).toNat + (min i j - -1074).toNat = (i + 1074).toNat by omega, show (j - min i j).toNat + (min i j - -1074).toNat = (j + 1074).toNat by omega]
theorem Mz_mono {x y x' y' : Nat} (h : x ≤ x') (k : y ≤ y') : Mz x y ≤ Mz x' y' :=
  rg_mono (-2148) (Int.le_refl _) (Int.le_refl _) (Nat.mul_le_mul_right _ (Nat.mul_le_mul (Vr_le h) (Vr_le k)))
theorem Az_mono {x y x' y' : Nat} (h : x ≤ x') (k : y ≤ y') : Az x y ≤ Az x' y' :=
  rg_mono (-1074) (Int.le_refl _) (Int.le_refl _) (Nat.mul_le_mul_right _ (Nat.add_le_add (Vr_le h) (Vr_le k)))
theorem pf_of {r c : Nat} (h : Pi r) (hc : rz r ≤ c) (hb : c < 9218868437227405312) : Pf r := by
  rcases h with h | h
  · rw [rz_le h] at hc
    exact .inl (by omega)
  · exact .inr h
theorem cmp_scale (x y c : Nat) (hc : 0 < c) : compare (x : Int) (y : Int) = compare (x * c) (y * c) := by
  rcases Nat.lt_trichotomy x y with h | h | h
  · rw [Int.compare_eq_lt.2 (by omega), Nat.compare_eq_lt.2 ((Nat.mul_lt_mul_right hc).2 h)]
  · subst h
    rw [Int.compare_eq_eq.2 rfl, Nat.compare_eq_eq.2 rfl]
  · rw [Int.compare_eq_gt.2 (by omega), Nat.compare_eq_gt.2 ((Nat.mul_lt_mul_right hc).2 h)]
theorem cmp_Vr (x y : Nat) : compare (Vr x) (Vr y) = compare x y := by
  rcases Nat.lt_trichotomy x y with h | h | h
  · rw [Nat.compare_eq_lt.2 h, Nat.compare_eq_lt.2 (Vr_lt h)]
  · subst h
    rw [Nat.compare_eq_eq.2 rfl, Nat.compare_eq_eq.2 rfl]
  · rw [Nat.compare_eq_gt.2 h, Nat.compare_eq_gt.2 (Vr_lt h)]
theorem order_pf {a b : Nat} (ha : Pf a) (hb : Pf b) : D.order a b = some (compare (rz a) (rz b)) := by
  obtain ⟨s, m, i, ea, hs, hi, hV⟩ := read_pf ha
  obtain ⟨t, n, j, eb, ht, hj, hW⟩ := read_pf hb
  unfold Format.order
  rw [ea, eb]
  show some (compare (signed s m (i - min i j).toNat) (signed t n (j - min i j).toNat)) = _
  rw [signed_nn hs, signed_nn ht, cmp_scale _ _ (2 ^ (min i j + 1074).toNat) (Nat.two_pow_pos _), Nat.mul_assoc, Nat.mul_assoc, ← Nat.pow_add, ← Nat.pow_add,
    show (i - min i j).toNat + (min i j + 1074).toNat = (i + 1074).toNat by omega, show (j - min i j).toNat + (min i j + 1074).toNat = (j + 1074).toNat by omega, hV, hW, cmp_Vr]

/-- x >= 0 && x <= c. -/
def ge0 (x : Nat) : Bool := D.order x 0 == some .gt || D.order x 0 == some .eq
def leC (x c : Nat) : Bool := D.order x c == some .lt || D.order x c == some .eq
theorem pf_of_bt {x c : Nat} (hx : x < 18446744073709551616) (hc : c < 9218868437227405312) (h1 : ge0 x = true) (h2 : leC x c = true) : Pf x ∧ rz x ≤ c := by
  have er := read_def x
  obtain ⟨n, j, ec, hj, hW⟩ := read_num hc
  have e0 : D.read 0 = .number false 0 (-1074) := by decide
  have hP : Pf x := by
    cases hd : D.read x with
    | nan s t => unfold ge0 Format.order at h1; rw [hd, e0] at h1; cases h1
    | infinity s =>
      unfold ge0 Format.order at h1
      unfold leC Format.order at h2
      rw [hd, e0] at h1
      rw [hd, ec] at h2
      cases s
      · cases h2
      · cases h1
    | number s m i =>
      unfold ge0 Format.order at h1
      rw [hd, e0] at h1
      have hneg : s = true → m = 0 := by
        rintro rfl
        refine Decidable.byContradiction fun hm => ?_
        have hlt : signed true m (i - min i (-1074)).toNat < signed false 0 (-1074 - min i (-1074)).toNat := by
          show -((m <<< (i - min i (-1074)).toNat : Nat) : Int) < ((0 <<< ((-1074 : Int) - min i (-1074)).toNat : Nat) : Int)
          rw [Nat.zero_shiftLeft, Nat.shiftLeft_eq]
          have := Nat.mul_pos (Nat.pos_of_ne_zero hm) (Nat.two_pow_pos (i - min i (-1074)).toNat)
          omega
        have hc : compare (signed true m (i - min i (-1074)).toNat) (signed false 0 (-1074 - min i (-1074)).toNat) = .lt := Int.compare_eq_lt.2 hlt
        have h1' : (some (compare (signed true m (i - min i (-1074)).toNat) (signed false 0 (-1074 - min i (-1074)).toNat)) == some Ordering.gt || some (compare (signed true m (i - min i (-1074)).toNat) (signed false 0 (-1074 - min i (-1074)).toNat)) == some Ordering.eq) = true := h1
        rw [hc] at h1'
        cases h1'
      rw [hd] at er
      clear h1 h2 hW ec
      have hdm := Nat.div_add_mod x 9223372036854775808
      have hml := Nat.mod_lt x (show 0 < 9223372036854775808 by decide)
      generalize x % 9223372036854775808 = r at *
      generalize hq : x / 9223372036854775808 = q at *
      have hq2 : q < 2 := by omega
      by_cases c1 : r < 4503599627370496
      · rw [if_pos c1] at er
        injection er with e1 e2 e3
        rcases Nat.lt_or_ge q 1 with h | h
        · exact .inl (by omega)
        · obtain rfl : q = 1 := by omega
          have := hneg (by rw [e1]; rfl)
          exact .inr (by omega)
      · rw [if_neg c1] at er
        by_cases c2 : r < 9218868437227405312
        · rw [if_pos c2] at er
          injection er with e1 e2 e3
          rcases Nat.lt_or_ge q 1 with h | h
          · exact .inl (by omega)
          · obtain rfl : q = 1 := by omega
            have := hneg (by rw [e1]; rfl)
            omega
        · rw [if_neg c2] at er
          by_cases c3 : r = 9218868437227405312
          · rw [if_pos c3] at er; cases er
          · rw [if_neg c3] at er; cases er
  refine ⟨hP, ?_⟩
  unfold leC at h2
  rw [order_pf hP (.inl hc), rz_le (b := c) (by omega)] at h2
  rcases Nat.lt_trichotomy (rz x) c with h | h | h
  · omega
  · omega
  · rw [Nat.compare_eq_gt.2 h] at h2
    cases h2

def E : Nat := 1074
theorem E_eq : E = 1074 := rfl
/-- 2 ^ 1074, not to be reckoned. -/
def U : Nat := 2 ^ E
theorem U_pos : 0 < U := Nat.two_pow_pos _
theorem cut_zero (neg : Bool) (n drop : Nat) : Toward.zero.cut neg n drop = n / 2 ^ drop := by
  unfold Toward.cut
  dsimp only
  rw [Nat.one_shiftLeft]
  show n / 2 ^ min drop (n.log2 + 2) + 0 = _
  rw [Nat.add_zero]
  rcases Nat.le_total drop (n.log2 + 2) with h | h
  · rw [Nat.min_eq_left h]
  · rw [Nat.min_eq_right h]
    have hn : n < 2 ^ (n.log2 + 1) := Nat.lt_log2_self
    have e2 : 2 ^ (n.log2 + 1) ≤ 2 ^ (n.log2 + 2) := Nat.pow_le_pow_right (by omega) (by omega)
    have e3 : 2 ^ (n.log2 + 2) ≤ 2 ^ drop := Nat.pow_le_pow_right (by omega) h
    rw [Nat.div_eq_of_lt (by omega), Nat.div_eq_of_lt (by omega)]
theorem cut_up {s : Bool} {n : Nat} (hs : s = true → n = 0) (drop : Nat) : Toward.up.cut s n drop = n / 2 ^ drop + (if n % 2 ^ drop = 0 then 0 else 1) := by
  unfold Toward.cut
  dsimp only
  rw [Nat.one_shiftLeft]
  have key : ∀ g : Nat, n / g + ((!s && n % g != 0).toNat) = n / g + (if n % g = 0 then 0 else 1) := by
    intro g
    cases s
    · by_cases h : n % g = 0
      · rw [if_pos h, h]; rfl
      · rw [if_neg h, show (n % g != 0) = true from bne_iff_ne.2 h]; rfl
    · rw [hs rfl, Nat.zero_mod, if_pos rfl]; rfl
  rw [key]
  rcases Nat.le_total drop (n.log2 + 2) with h | h
  · rw [Nat.min_eq_left h]
  · rw [Nat.min_eq_right h]
    have hn : n < 2 ^ (n.log2 + 1) := Nat.lt_log2_self
    have e2 : 2 ^ (n.log2 + 1) ≤ 2 ^ (n.log2 + 2) := Nat.pow_le_pow_right (by omega) (by omega)
    have e3 : 2 ^ (n.log2 + 2) ≤ 2 ^ drop := Nat.pow_le_pow_right (by omega) h
    have a1 : n < 2 ^ (n.log2 + 2) := by omega
    have a2 : n < 2 ^ drop := by omega
    rw [Nat.div_eq_of_lt a1, Nat.div_eq_of_lt a2, Nat.mod_eq_of_lt a1, Nat.mod_eq_of_lt a2]
/-- 'm * 2 ^ i' in units: the whole part, the rest. -/
theorem div_units {m : Nat} {i : Int} (hi : -1074 ≤ i) : (m <<< i.toNat) / 2 ^ (-i).toNat = (m * 2 ^ (i + 1074).toNat) / U ∧ ((m <<< i.toNat) % 2 ^ (-i).toNat = 0 ↔ (m * 2 ^ (i + 1074).toNat) % U = 0) := by
  rw [Nat.shiftLeft_eq]
  have e : m * 2 ^ (i + 1074).toNat * 2 ^ (-i).toNat = m * 2 ^ i.toNat * U := by
    unfold U
    rw [Nat.mul_assoc, Nat.mul_assoc, ← Nat.pow_add, ← Nat.pow_add, show (i + 1074).toNat + (-i).toNat = i.toNat + E by have := E_eq; omega]
  have hU := U_pos
  have hp := Nat.two_pow_pos (-i).toNat
  generalize m * 2 ^ (i + 1074).toNat = x at *
  generalize m * 2 ^ i.toNat = y at *
  generalize 2 ^ (-i).toNat = p at *
  generalize U = u at *
  constructor
  · have c1 : y / p = (y * u) / (p * u) := (Nat.mul_div_mul_right y p hU).symm
    have c2 : (y * u) / (p * u) = (x * p) / (u * p) := by rw [e, Nat.mul_comm p u]
    exact c1.trans (c2.trans (Nat.mul_div_mul_right x u hp))
  · have e1 : (y * u) % (p * u) = (y % p) * u := Nat.mul_mod_mul_right u y p
    have e2 : (x * p) % (u * p) = (x % u) * p := Nat.mul_mod_mul_right p x u
    rw [e, Nat.mul_comm u p, e1] at e2
    constructor
    · intro h
      rw [h, Nat.zero_mul] at e2
      rcases Nat.mul_eq_zero.1 e2.symm with h1 | h1
      · exact h1
      · omega
    · intro h
      rw [h, Nat.zero_mul] at e2
      rcases Nat.mul_eq_zero.1 e2 with h1 | h1
      · exact h1
      · omega
def flr (b : Nat) : Nat := Vr (rz b) / U
def cei (b : Nat) : Nat := Vr (rz b) / U + (if Vr (rz b) % U = 0 then 0 else 1)
theorem toInt_pf {b : Nat} (hb : Pf b) : (D.read b).toInt .zero = some (flr b : Int) := by
  obtain ⟨s, m, i, e, hs, hi, hV⟩ := read_pf hb
  rw [e]
  show some (signed s (Toward.zero.cut s (m <<< i.toNat) (-i).toNat) 0) = _
  rw [cut_zero, (div_units hi).1, hV]
  have hz : s = true → Vr (rz b) / U = 0 := fun h => by rw [← hV, hs h, Nat.zero_mul, Nat.zero_div]
  rw [signed_nn hz]
  simp [flr]
theorem ceil_pf {b : Nat} (hb : Pf b) : rz (D.write ((D.read b).integral .up)) = rg (cei b) 0 ∧ Pi (D.write ((D.read b).integral .up)) ∧ (D.read b).isNaN = false := by
  obtain ⟨s, m, i, e, hs, hi, hV⟩ := read_pf hb
  rw [e]
  have hn : s = true → m <<< i.toNat = 0 := fun h => by rw [hs h]; exact Nat.zero_shiftLeft _
  have hc : Toward.up.cut s (m <<< i.toNat) (-i).toNat = cei b := by
    rw [cut_up hn]
    unfold cei
    rw [(div_units hi).1, hV]
    have := (div_units (m := m) hi).2
    rw [hV] at this
    by_cases h : Vr (rz b) % U = 0
    · rw [if_pos h, if_pos (this.2 h)]
    · rw [if_neg h, if_neg (fun h' => h (this.1 h'))]
  have hz : s = true → cei b = 0 := fun h => by
    unfold cei
    rw [← hV, hs h, Nat.zero_mul, Nat.zero_div, Nat.zero_mod, if_pos rfl]
  show rz (D.write (.number s (Toward.up.cut s (m <<< i.toNat) (-i).toNat) 0)) = _ ∧ Pi (D.write (.number s (Toward.up.cut s (m <<< i.toNat) (-i).toNat) 0)) ∧ _
  rw [hc]
  obtain ⟨a, c⟩ := write_pf (i := 0) hz
  exact ⟨a, c, rfl⟩
/-- A whole number below 2 ^ 53 is representable. -/
theorem whole_repr {c : Nat} (hc : c < 9007199254740992) : rg c 0 < 9218868437227405312 ∧ Vr (rg c 0) = c * U := by
  by_cases h0 : c = 0
  · subst h0
    rw [rg_zero, Nat.zero_mul]
    exact ⟨by omega, rfl⟩
  have he : c.log2 ≤ 52 := by
    have := (Nat.log2_lt h0).2 (show c < 2 ^ 53 from hc)
    omega
  have h1 : 2 ^ c.log2 ≤ c := Nat.log2_self_le h0
  have h2 : c < 2 ^ (c.log2 + 1) := Nat.lt_log2_self
  generalize c.log2 = e at *
  have h3 : 4503599627370496 ≤ c * 2 ^ (52 - e) := by
    have := Nat.mul_le_mul_right (2 ^ (52 - e)) h1
    rw [← Nat.pow_add, show e + (52 - e) = 52 by omega] at this
    exact this
  have h4 : c * 2 ^ (52 - e) < 9007199254740992 := by
    have := (Nat.mul_lt_mul_right (Nat.two_pow_pos (52 - e))).2 h2
    rw [← Nat.pow_add, show e + 1 + (52 - e) = 53 by omega] at this
    exact this
  have hU : c * U = c * 2 ^ (52 - e) * 2 ^ (1022 + e) := by
    unfold U
    rw [Nat.mul_assoc, ← Nat.pow_add, show 52 - e + (1022 + e) = E by have := E_eq; omega]
  have hb : ∃ b, b < 9218868437227405312 ∧ Vr b = c * U := by
    refine ⟨(1023 + e) * 4503599627370496 + (c * 2 ^ (52 - e) - 4503599627370496), by omega, ?_⟩
    rw [hU]
    generalize c * 2 ^ (52 - e) = f at *
    unfold Vr
    rw [if_neg (by omega), show ((1023 + e) * 4503599627370496 + (f - 4503599627370496)) % 4503599627370496 = f - 4503599627370496 by omega, show ((1023 + e) * 4503599627370496 + (f - 4503599627370496)) / 4503599627370496 = 1023 + e by omega,
      show 4503599627370496 + (f - 4503599627370496) = f by omega, show 1023 + e - 1 = 1022 + e by omega]
  obtain ⟨b, hb1, hb2⟩ := hb
  have : rg c 0 = b := rg_fix (by omega) (by omega) (by rw [hb2, show ((0 : Int) + 1074).toNat = E from rfl, U])
  rw [this]
  exact ⟨hb1, hb2⟩
end Go.Proofs.Ytoopoecopahcbaa.Fl
