/- Plain laws on the model's floats (float64): rounding is monotone and leaves what is representable. No condition. -/
import Derived.Test.YtoopoecopahcbaaFl
namespace Go.Proofs.Ytoopoecopahcbaa.Fl
open Go Ieee
set_option linter.unusedVariables false
set_option linter.unusedSimpArgs false

def rne (n g : Nat) : Nat := n / g + (if g < 2 * (n % g) ∨ (g = 2 * (n % g) ∧ (n / g) % 2 = 1) then 1 else 0)

theorem cut_even (neg : Bool) (n drop : Nat) : Toward.even.cut neg n drop = rne n (2 ^ drop) := by
  unfold Toward.cut
  dsimp only
  rw [Nat.one_shiftLeft]
  have hif : ∀ (g : Nat), (decide (g < 2 * (n % g)) || (g == 2 * (n % g) && n / g % 2 == 1)).toNat = if g < 2 * (n % g) ∨ (g = 2 * (n % g) ∧ (n / g) % 2 = 1) then 1 else 0 := by
    intro g
    by_cases h : g < 2 * (n % g) ∨ (g = 2 * (n % g) ∧ (n / g) % 2 = 1)
    · rw [if_pos h]
      rcases h with h | ⟨h1, h2⟩
      · simp [h]
      · rw [show (g == 2 * (n % g)) = true from beq_iff_eq.2 h1, show (n / g % 2 == 1) = true from beq_iff_eq.2 h2]
        simp
    · rw [if_neg h]
      have h1 : ¬ g < 2 * (n % g) := fun a => h (.inl a)
      have h2 : (g == 2 * (n % g) && n / g % 2 == 1) = false := by
        cases hc : (g == 2 * (n % g) && n / g % 2 == 1) with
        | false => rfl
        | true =>
          rw [Bool.and_eq_true, beq_iff_eq, beq_iff_eq] at hc
          exact absurd (.inr hc) h
      rw [h2, decide_eq_false h1]
      rfl
  rw [hif]
  rcases Nat.le_total drop (n.log2 + 2) with h | h
  · rw [Nat.min_eq_left h]
    rfl
  · rw [Nat.min_eq_right h]
    have hn : n < 2 ^ (n.log2 + 1) := Nat.lt_log2_self
    have e2 : 2 ^ (n.log2 + 2) = 2 * 2 ^ (n.log2 + 1) := by rw [Nat.pow_succ]; omega
    have e3 : 2 ^ (n.log2 + 2) ≤ 2 ^ drop := Nat.pow_le_pow_right (by omega) h
    have z : ∀ g, 2 ^ (n.log2 + 2) ≤ g → n / g + (if g < 2 * (n % g) ∨ (g = 2 * (n % g) ∧ (n / g) % 2 = 1) then 1 else 0) = 0 := by
      intro g hg
      have h1 : n / g = 0 := Nat.div_eq_of_lt (by omega)
      have h2 : n % g = n := Nat.mod_eq_of_lt (by omega)
      rw [h1, h2, if_neg (by omega)]
    rw [z _ (Nat.le_refl _)]
    unfold rne
    rw [z _ e3]

theorem rne_spec (n g : Nat) (hg : 0 < g) : 2 * rne n g * g ≤ 2 * n + g ∧ 2 * n ≤ (2 * rne n g + 1) * g ∧ (2 * rne n g * g = 2 * n + g → rne n g % 2 = 0) ∧ (2 * n = (2 * rne n g + 1) * g → rne n g % 2 = 0) := by
  have hd := Nat.div_add_mod n g
  have hr := Nat.mod_lt n hg
  unfold rne
  generalize n / g = q at *
  generalize n % g = r at *
  have e1 : 2 * (q + 1) * g = 2 * (g * q) + 2 * g := by rw [Nat.mul_assoc, Nat.add_mul, Nat.one_mul, Nat.mul_comm q g]; omega
  have e2 : 2 * (q + 0) * g = 2 * (g * q) := by rw [Nat.mul_assoc, Nat.add_zero, Nat.mul_comm q g]
  have e3 : (2 * (q + 1) + 1) * g = 2 * (g * q) + 3 * g := by rw [Nat.add_mul, e1]; omega
  have e4 : (2 * (q + 0) + 1) * g = 2 * (g * q) + g := by rw [Nat.add_mul, e2]; omega
  generalize g * q = x at *
  by_cases h : g < 2 * r ∨ (g = 2 * r ∧ q % 2 = 1)
  · rw [if_pos h, e1, e3]
    refine ⟨by omega, by omega, fun h1 => by omega, fun h1 => by omega⟩
  · rw [if_neg h, e2, e4]
    refine ⟨by omega, by omega, fun h1 => by omega, fun h1 => by omega⟩

theorem rne_mono {n g n' g' : Nat} (hg : 0 < g) (hg' : 0 < g') (h : n * g' ≤ n' * g) : rne n g ≤ rne n' g' := by
  obtain ⟨a1, a2, a3, a4⟩ := rne_spec n g hg
  obtain ⟨b1, b2, b3, b4⟩ := rne_spec n' g' hg'
  generalize rne n g = k at *
  generalize rne n' g' = k' at *
  rcases Nat.lt_or_ge k' k with hlt | hge
  · exfalso
    have s1 : 2 * (k' + 1) * g ≤ 2 * k * g := Nat.mul_le_mul_right _ (by omega)
    have s2 : 2 * (k' + 1) * g = (2 * k' + 1) * g + g := by rw [show 2 * (k' + 1) = (2 * k' + 1) + 1 by omega, Nat.add_mul, Nat.one_mul]
    have A : (2 * k' + 1) * g ≤ 2 * n := by omega
    have m1 : (2 * k' + 1) * g * g' ≤ 2 * n * g' := Nat.mul_le_mul_right _ A
    have m2 : 2 * n * g' ≤ 2 * n' * g := by rw [Nat.mul_assoc, Nat.mul_assoc]; exact Nat.mul_le_mul_left _ h
    have m3 : 2 * n' * g ≤ (2 * k' + 1) * g' * g := Nat.mul_le_mul_right _ b2
    have m4 : (2 * k' + 1) * g' * g = (2 * k' + 1) * g * g' := by rw [Nat.mul_assoc, Nat.mul_comm g' g, ← Nat.mul_assoc]
    have c1 : (2 * k' + 1) * g = 2 * n := Nat.eq_of_mul_eq_mul_right hg' (by omega)
    have c2 : 2 * n' = (2 * k' + 1) * g' := Nat.eq_of_mul_eq_mul_right hg (by omega)
    have hk' := b4 c2
    have hk : k = k' + 1 := by
      have : 2 * k * g ≤ 2 * (k' + 1) * g := by omega
      have := Nat.le_of_mul_le_mul_right this hg
      omega
    subst hk
    have := a3 (by omega)
    omega
  · exact hge
theorem rne_one (n : Nat) : rne n 1 = n := by
  unfold rne
  rw [Nat.div_one, Nat.mod_one, if_neg (by omega)]
  omega
theorem pow_shift {m m' s t s' t' : Nat} (h : m * 2 ^ s ≤ m' * 2 ^ t) (e : s + t' = s' + t) : m * 2 ^ s' ≤ m' * 2 ^ t' := by
  rcases Nat.le_total s s' with h1 | h1
  · obtain ⟨d, rfl⟩ := Nat.exists_eq_add_of_le h1
    obtain rfl : t' = t + d := by omega
    rw [Nat.pow_add, Nat.pow_add, ← Nat.mul_assoc, ← Nat.mul_assoc]
    exact Nat.mul_le_mul_right _ h
  · obtain ⟨d, rfl⟩ := Nat.exists_eq_add_of_le h1
    obtain rfl : t = t' + d := by omega
    rw [Nat.pow_add, Nat.pow_add, ← Nat.mul_assoc, ← Nat.mul_assoc] at h
    exact Nat.le_of_mul_le_mul_right h (Nat.two_pow_pos d)
theorem log2_le_of_pow {m m' s t : Nat} (hm : 0 < m) (h : m * 2 ^ s ≤ m' * 2 ^ t) : m.log2 + s ≤ m'.log2 + t := by
  have hm' : m' ≠ 0 := by
    rintro rfl
    rw [Nat.zero_mul] at h
    have := Nat.mul_pos hm (Nat.two_pow_pos s)
    omega
  have h1 : 2 ^ (m.log2 + s) ≤ m * 2 ^ s := by rw [Nat.pow_add]; exact Nat.mul_le_mul_right _ (Nat.log2_self_le (by omega))
  have h2 : m' * 2 ^ t < 2 ^ (m'.log2 + 1 + t) := by rw [Nat.pow_add _ (m'.log2 + 1)]; exact (Nat.mul_lt_mul_right (Nat.two_pow_pos t)).2 Nat.lt_log2_self
  have h3 : 2 ^ (m.log2 + s) < 2 ^ (m'.log2 + 1 + t) := by omega
  have := (Nat.pow_lt_pow_iff_right (by omega)).1 h3
  omega

/-- The rung of the word nearest to 'm * 2 ^ p'. -/
def rg (m : Nat) (p : Int) : Nat := D.nearest false m p
theorem rg_zero (p : Int) : rg 0 p = 0 := by unfold rg Format.nearest; rfl
def lst (m : Nat) (p : Int) : Int := max (p + m.log2 - 52) (-1074)
def kpt (m : Nat) (p : Int) : Nat := rne (m * 2 ^ (p - lst m p).toNat) (2 ^ (lst m p - p).toNat)
theorem rg_pos {m : Nat} (p : Int) (hm : m ≠ 0) : rg m p = min ((lst m p + 1074).toNat * 4503599627370496 + kpt m p) 9218868437227405312 := by
  unfold rg Format.nearest
  rw [if_neg hm]
  dsimp only
  rw [word_pos, ir, bi, lp, cut_even, Nat.shiftLeft_eq]
  have e : (max (p + ↑m.log2 - ↑D.fractionBits) (-1074) : Int) = lst m p := rfl
  rw [e]
  have e2 : (lst m p - -1074) = lst m p + 1074 := by omega
  rw [e2]
  rfl
theorem kpt_le {m : Nat} (p : Int) (hm : m ≠ 0) : kpt m p ≤ 9007199254740992 := by
  unfold kpt
  have hl : p + m.log2 - 52 ≤ lst m p := by unfold lst; omega
  have h := rne_mono (n := m * 2 ^ (p - lst m p).toNat) (g := 2 ^ (lst m p - p).toNat) (n' := 9007199254740992) (g' := 1) (Nat.two_pow_pos _) (by omega) ?_
  · rw [rne_one] at h; exact h
  · rw [Nat.mul_one]
    have h1 : m ≤ 2 ^ (m.log2 + 1) := Nat.le_of_lt Nat.lt_log2_self
    refine Nat.le_trans (Nat.mul_le_mul_right _ h1) ?_
    rw [show (9007199254740992 : Nat) = 2 ^ 53 by decide, ← Nat.pow_add, ← Nat.pow_add]
    exact Nat.pow_le_pow_right (by omega) (by omega)
theorem kpt_ge {m : Nat} (p : Int) (hm : m ≠ 0) (hl : lst m p = p + m.log2 - 52) : 4503599627370496 ≤ kpt m p := by
  unfold kpt
  have h := rne_mono (n := 4503599627370496) (g := 1) (n' := m * 2 ^ (p - lst m p).toNat) (g' := 2 ^ (lst m p - p).toNat) (by omega) (Nat.two_pow_pos _) ?_
  · rw [rne_one] at h; exact h
  · rw [Nat.mul_one]
    have h1 : 2 ^ m.log2 ≤ m := Nat.log2_self_le hm
    refine Nat.le_trans ?_ (Nat.mul_le_mul_right _ h1)
    rw [show (4503599627370496 : Nat) = 2 ^ 52 by decide, ← Nat.pow_add, ← Nat.pow_add]
    exact Nat.pow_le_pow_right (by omega) (by omega)
theorem rg_mono {m m' : Nat} {p p' : Int} (q : Int) (hq : q ≤ p) (hq' : q ≤ p') (h : m * 2 ^ (p - q).toNat ≤ m' * 2 ^ (p' - q).toNat) : rg m p ≤ rg m' p' := by
  by_cases hm : m = 0
  · subst hm
    rw [rg_zero]
    omega
  have hm' : m' ≠ 0 := by
    rintro rfl
    rw [Nat.zero_mul] at h
    have := Nat.mul_pos (Nat.pos_of_ne_zero hm) (Nat.two_pow_pos (p - q).toNat)
    omega
  rw [rg_pos p hm, rg_pos p' hm']
  have hlog := log2_le_of_pow (Nat.pos_of_ne_zero hm) h
  have hle : lst m p ≤ lst m' p' := by clear h; unfold lst; omega
  have hb : (-1074 : Int) ≤ lst m p := by clear h; unfold lst; omega
  have key : (lst m p + 1074).toNat * 4503599627370496 + kpt m p ≤ (lst m' p' + 1074).toNat * 4503599627370496 + kpt m' p' := by
    by_cases he : lst m p = lst m' p'
    · rw [he]
      refine Nat.add_le_add_left ?_ _
      unfold kpt
      refine rne_mono (Nat.two_pow_pos _) (Nat.two_pow_pos _) ?_
      rw [Nat.mul_assoc, Nat.mul_assoc, ← Nat.pow_add, ← Nat.pow_add]
      refine pow_shift h ?_
      clear h
      rw [he]
      omega
    · have k1 := kpt_le p hm
      have hl' : lst m' p' = p' + m'.log2 - 52 := by clear h k1; unfold lst at *; omega
      have k2 := kpt_ge p' hm' hl'
      have : (lst m p + 1074).toNat + 1 ≤ (lst m' p' + 1074).toNat := by clear h k1 k2; omega
      clear h hlog hl' hle hb he
      generalize (lst m p + 1074).toNat = a at *
      generalize (lst m' p' + 1074).toNat = b at *
      generalize kpt m p = c at *
      generalize kpt m' p' = d at *
      omega
  exact Nat.le_min.2 ⟨Nat.le_trans (Nat.min_le_left _ _) key, Nat.min_le_right _ _⟩
theorem rg_same {m m' : Nat} {p p' : Int} (q : Int) (hq : q ≤ p) (hq' : q ≤ p') (h : m * 2 ^ (p - q).toNat = m' * 2 ^ (p' - q).toNat) : rg m p = rg m' p' :=
  Nat.le_antisymm (rg_mono q hq hq' (Nat.le_of_eq h)) (rg_mono q hq' hq (Nat.le_of_eq h.symm))
theorem rg_le (m : Nat) (p : Int) : rg m p ≤ 9218868437227405312 := nearest_nn m p

/-- What a rung stands for, in units of 2 ^ -1074. -/
def Vr (b : Nat) : Nat := if b < 4503599627370496 then b else (4503599627370496 + b % 4503599627370496) * 2 ^ (b / 4503599627370496 - 1)
theorem Vr_lt {b b' : Nat} (h : b < b') : Vr b < Vr b' := by
  unfold Vr
  by_cases h' : b' < 4503599627370496
  · rw [if_pos h', if_pos (by omega)]; exact h
  · rw [if_neg h']
    have hp := Nat.two_pow_pos (b' / 4503599627370496 - 1)
    by_cases h1 : b < 4503599627370496
    · rw [if_pos h1]
      exact Nat.lt_of_lt_of_le h1 (Nat.le_trans (by omega) (Nat.mul_le_mul_left _ hp))
    · rw [if_neg h1]
      have hd := Nat.div_add_mod b 4503599627370496
      have hd' := Nat.div_add_mod b' 4503599627370496
      have hr := Nat.mod_lt b (show 0 < 4503599627370496 by decide)
      by_cases hq : b / 4503599627370496 = b' / 4503599627370496
      · rw [hq] at hd ⊢
        exact (Nat.mul_lt_mul_right hp).2 (by omega)
      · have hq' : b / 4503599627370496 < b' / 4503599627370496 := by omega
        have hq1 : 1 ≤ b / 4503599627370496 := by omega
        have s1 : (4503599627370496 + b % 4503599627370496) * 2 ^ (b / 4503599627370496 - 1) < 9007199254740992 * 2 ^ (b / 4503599627370496 - 1) := (Nat.mul_lt_mul_right (Nat.two_pow_pos _)).2 (by omega)
        have s2 : 9007199254740992 * 2 ^ (b / 4503599627370496 - 1) = 4503599627370496 * 2 ^ (b / 4503599627370496) := by
          rw [show b / 4503599627370496 = (b / 4503599627370496 - 1) + 1 by omega, Nat.pow_succ, Nat.add_sub_cancel]
          omega
        have s3 : 4503599627370496 * 2 ^ (b / 4503599627370496) ≤ 4503599627370496 * 2 ^ (b' / 4503599627370496 - 1) := Nat.mul_le_mul_left _ (Nat.pow_le_pow_right (by omega) (by omega))
        have s4 : 4503599627370496 * 2 ^ (b' / 4503599627370496 - 1) ≤ (4503599627370496 + b' % 4503599627370496) * 2 ^ (b' / 4503599627370496 - 1) := Nat.mul_le_mul_right _ (by omega)
        omega
theorem Vr_le {b b' : Nat} (h : b ≤ b') : Vr b ≤ Vr b' := by
  rcases Nat.lt_or_ge b b' with h1 | h1
  · exact Nat.le_of_lt (Vr_lt h1)
  · obtain rfl : b = b' := by omega
    exact Nat.le_refl _
theorem Vr_le_iff {b b' : Nat} : Vr b ≤ Vr b' ↔ b ≤ b' := ⟨fun h => by
  rcases Nat.lt_or_ge b' b with h1 | h1
  · have := Vr_lt h1; omega
  · exact h1, Vr_le⟩
theorem Vr_zero : Vr 0 = 0 := rfl
theorem between {a k : Nat} (h : 52 + k ≤ a) (h' : a < 53 + k) : a = 52 + k := by omega
theorem no_more {g : Nat} (q : Nat) (hg : 0 < g) : ¬(g < 2 * 0 ∨ (g = 2 * 0 ∧ q % 2 = 1)) := by omega
theorem z_all (k : Nat) : ((-1074 : Int) - (-1074 + k)).toNat = 0 ∧ ((-1074 : Int) + k - -1074).toNat = k ∧ ((-1074 : Int) + k + 1074).toNat = k := ⟨by omega, by omega, by omega⟩
/-- What is representable is not rounded. -/
theorem rg_Vr {b : Nat} (h : b ≤ 9218868437227405312) : rg (Vr b) (-1074) = b := by
  by_cases h0 : b = 0
  · subst h0; rfl
  have hV : Vr b ≠ 0 := by
    have := Vr_lt (Nat.pos_of_ne_zero h0)
    rw [Vr_zero] at this
    omega
  rw [rg_pos _ hV]
  unfold kpt
  by_cases h1 : b < 4503599627370496
  · have e : Vr b = b := by unfold Vr; rw [if_pos h1]
    rw [e]
    have hl : b.log2 < 52 := (Nat.log2_lt h0).2 h1
    have hL : lst b (-1074) = -1074 := by unfold lst; omega
    rw [hL]
    simp only [Int.sub_self, Int.toNat_zero, Nat.pow_zero, Nat.mul_one, rne_one]
    omega
  · have hd := Nat.div_add_mod b 4503599627370496
    have hr := Nat.mod_lt b (show 0 < 4503599627370496 by decide)
    have e : Vr b = (4503599627370496 + b % 4503599627370496) * 2 ^ (b / 4503599627370496 - 1) := by unfold Vr; rw [if_neg h1]
    have hq1 : 1 ≤ b / 4503599627370496 := by omega
    rw [e]
    generalize b % 4503599627370496 = f at *
    generalize b / 4503599627370496 = q at *
    obtain ⟨k, rfl⟩ : ∃ k, q = k + 1 := ⟨q - 1, by omega⟩
    rw [Nat.add_sub_cancel]
    have hl : ((4503599627370496 + f) * 2 ^ k).log2 = 52 + k := by
      have hne : (4503599627370496 + f) * 2 ^ k ≠ 0 := Nat.ne_of_gt (Nat.mul_pos (by omega) (Nat.two_pow_pos _))
      have a1 : 52 + k ≤ ((4503599627370496 + f) * 2 ^ k).log2 := by
        rw [Nat.le_log2 hne, Nat.pow_add]
        exact Nat.mul_le_mul_right _ (Nat.le_add_right 4503599627370496 f)
      have a2 : ((4503599627370496 + f) * 2 ^ k).log2 < 53 + k := by
        rw [Nat.log2_lt hne, Nat.pow_add]
        exact (Nat.mul_lt_mul_right (Nat.two_pow_pos _)).2 (Nat.add_lt_add_left hr 4503599627370496)
      exact between a1 a2
    have hL : lst ((4503599627370496 + f) * 2 ^ k) (-1074) = -1074 + k := by unfold lst; rw [hl]; omega
    rw [hL]
    obtain ⟨z1, z2, z3⟩ := z_all k
    rw [z1, z2, z3, Nat.pow_zero, Nat.mul_one]
    have hk : rne ((4503599627370496 + f) * 2 ^ k) (2 ^ k) = 4503599627370496 + f := by
      unfold rne
      rw [Nat.mul_div_cancel _ (Nat.two_pow_pos _), Nat.mul_mod_left, if_neg (no_more _ (Nat.two_pow_pos k)), Nat.add_zero]
    rw [hk]
    clear hk z1 z2 z3 hL hl e hV h0 h1 hq1 hr
    rw [Nat.min_eq_left (by omega)]
    omega
theorem rg_fix {b m : Nat} {p : Int} (h : b ≤ 9218868437227405312) (hp : -1074 ≤ p) (e : m * 2 ^ (p + 1074).toNat = Vr b) : rg m p = b := by
  have := rg_same (m := m) (m' := Vr b) (p := p) (p' := -1074) (-1074) hp (Int.le_refl _) (by rw [show p - -1074 = p + 1074 by omega, e]; simp)
  rw [this, rg_Vr h]
end Go.Proofs.Ytoopoecopahcbaa.Fl
