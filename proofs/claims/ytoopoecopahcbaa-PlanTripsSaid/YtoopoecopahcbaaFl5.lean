/- Point grows: the plain law. No condition. -/
import Derived.Test.YtoopoecopahcbaaPlPoint2
namespace Go.Proofs.Ytoopoecopahcbaa.Fl
open Go Ieee
set_option linter.unusedVariables false
set_option linter.unusedSimpArgs false

theorem Az_zero {x : Nat} (h : x ≤ 9218868437227405312) : Az x 0 = x := by
  unfold Az
  rw [Vr_zero, Nat.add_zero, rg_Vr h]
theorem Az_zeroM (x y : Nat) : Az (Mz x y) 0 = Mz x y := Az_zero (rg_le _ _)
theorem Mz_zero (x : Nat) : Mz x 0 = 0 := by unfold Mz; rw [Vr_zero, Nat.mul_zero, rg_zero]
theorem Mz_zero' (x : Nat) : Mz 0 x = 0 := by unfold Mz; rw [Vr_zero, Nat.zero_mul, rg_zero]
theorem ceiV_mono {x y : Nat} (h : x ≤ y) : ceiV x ≤ ceiV y := by
  have hv := Vr_le h
  unfold ceiV
  generalize Vr x = a at *
  generalize Vr y = b at *
  have hU := U_pos
  generalize U = u at *
  have ea := Nat.div_add_mod a u
  have eb := Nat.div_add_mod b u
  have hq : a / u ≤ b / u := Nat.div_le_div_right hv
  rcases Nat.lt_or_ge (a / u) (b / u) with h1 | h1
  · split <;> split <;> omega
  · have h2 : a / u = b / u := by omega
    rw [h2] at ea
    have h3 : a % u ≤ b % u := by omega
    split <;> split <;> omega
theorem pow_units {x : Nat} : x * 2 ^ ((0 : Int) - -2148).toNat = x * (U * U) := by
  rw [show ((0 : Int) - -2148).toNat = E + E from rfl, Nat.pow_add]
  unfold U
  generalize 2 ^ E = u
  rfl
theorem whole_mul {a b : Nat} (ha : a < 9007199254740992) (hb : b < 9007199254740992) : Mz (rg a 0) (rg b 0) = rg (a * b) 0 := by
  unfold Mz
  rw [(whole_repr ha).2, (whole_repr hb).2]
  refine rg_same (-2148) (Int.le_refl _) (by omega) ?_
  rw [pow_units, show ((-2148 : Int) - -2148).toNat = 0 from rfl, Nat.pow_zero, Nat.mul_one]
  simp only [Nat.mul_assoc, Nat.mul_comm, Nat.mul_left_comm]
theorem ceiV_whole {a : Nat} (ha : a < 9007199254740992) : ceiV (rg a 0) = a := by
  unfold ceiV
  rw [(whole_repr ha).2, Nat.mul_div_cancel _ U_pos, Nat.mul_mod_left, if_pos rfl]
  omega
theorem bt_of {x c : Nat} (h : Pf x) (hx : rz x ≤ c) (hc : c < 9218868437227405312) : bt x c = true := by
  unfold bt ge0 leC
  rw [order_pf h (.inl (show 0 < _ by omega)), order_pf h (.inl hc), rz_le (b := c) (by omega), rz_le (b := 0) (by omega)]
  have h1 : (some (compare (rz x) 0) == some Ordering.gt || some (compare (rz x) 0) == some Ordering.eq) = true := by
    rcases Nat.eq_zero_or_pos (rz x) with h | h
    · rw [h]; rfl
    · rw [Nat.compare_eq_gt.2 h]; rfl
  have h2 : (some (compare (rz x) c) == some Ordering.lt || some (compare (rz x) c) == some Ordering.eq) = true := by
    rcases Nat.lt_or_ge (rz x) c with h | h
    · rw [Nat.compare_eq_lt.2 h]; rfl
    · obtain h : rz x = c := by omega
      rw [h, Nat.compare_eq_eq.2 rfl]; rfl
  rw [h1, h2]
  rfl
theorem zF_mono {m d z m' d' z' l : Nat} (h1 : m ≤ m') (h2 : d ≤ d') (h3 : z ≤ z') : zF m d z l ≤ zF m' d' z' l :=
  Az_mono (Mz_mono h1 (Nat.le_refl _)) (Mz_mono (Mz_mono h3 h2) (Nat.le_refl _))
theorem rg_small {a b : Nat} (h : a ≤ b) : rg a 0 ≤ rg b 0 := rg_mono 0 (by omega) (by omega) (Nat.mul_le_mul_right _ h)
theorem k6 : rg 1000000 0 = 4696837146684686336 := by kernel_rfl
theorem k5 : rg 5 0 = 4617315517961601024 := by kernel_rfl
theorem sum6 : Az 4696837146684686336 4617315517961601024 ≤ c9 := by decide +kernel
theorem sum5 : Az 4617315517961601024 4617315517961601024 ≤ c10 := by decide +kernel
theorem point_at {m d z : Nat} {l : Nat} (hm : Pf m) (bm : rz m ≤ c9) (hd : Pf d) (bd : rz d ≤ c9) (hz : Pf z) (bz : rz z ≤ c10) (hl : l ≤ 1000) : pointR m d z (l : Int) = (((ceiV (zF (rz m) (rz d) (rz z) l) : Nat) : Int), 0) := by
  unfold pointR
  rw [if_pos ⟨bt_of hm bm (by decide), bt_of hd bd (by decide), bt_of hz bz (by decide), by omega, by omega⟩, Int.toNat_natCast]
theorem pf_rg {a : Nat} (h : a < 9007199254740992) : Pf (rg a 0) ∧ rz (rg a 0) = rg a 0 := ⟨.inl (whole_repr h).1, rz_le (Nat.le_of_lt (whole_repr h).1)⟩
/-- What PlanGrows asks. -/
theorem grows {m d z l u : Nat} (hm : m ≤ 1000000) (hd : d ≤ 1000000) (hz : z ≤ 5) (hl : l ≤ 1000) (hu : u ≤ 5) :
    ∃ m2 d2 z2, D.add (rg m 0) (rg u 0) = some m2 ∧ D.add (rg d 0) (rg u 0) = some d2 ∧ D.add (rg z 0) (rg u 0) = some z2 ∧ m2 < 18446744073709551616 ∧ d2 < 18446744073709551616 ∧ z2 < 18446744073709551616 ∧
      ∃ p q r s : Nat, pointR (rg m 0) (rg d 0) (rg z 0) l = ((p : Int), 0) ∧ pointR m2 (rg d 0) (rg z 0) l = ((q : Int), 0) ∧ pointR (rg m 0) d2 (rg z 0) l = ((r : Int), 0) ∧ pointR (rg m 0) (rg d 0) z2 l = ((s : Int), 0) ∧
        pointR (rg m 0) 0 (rg z 0) l = (((m * l : Nat) : Int), 0) ∧ p ≤ q ∧ p ≤ r ∧ p ≤ s ∧ m * l ≤ p := by
  obtain ⟨pm, em⟩ := pf_rg (a := m) (by omega)
  obtain ⟨pd, ed⟩ := pf_rg (a := d) (by omega)
  obtain ⟨pz, ez⟩ := pf_rg (a := z) (by omega)
  obtain ⟨pu, eu⟩ := pf_rg (a := u) (by omega)
  have bm : rg m 0 ≤ 4696837146684686336 := by rw [← k6]; exact rg_small hm
  have bd : rg d 0 ≤ 4696837146684686336 := by rw [← k6]; exact rg_small hd
  have bz : rg z 0 ≤ 4617315517961601024 := by rw [← k5]; exact rg_small hz
  have bu : rg u 0 ≤ 4617315517961601024 := by rw [← k5]; exact rg_small hu
  obtain ⟨m2, a1, a2, a3⟩ := add_pf pm pu
  obtain ⟨d2, b1, b2, b3⟩ := add_pf pd pu
  obtain ⟨z2, c1, c2, c3⟩ := add_pf pz pu
  rw [em, eu] at a2
  rw [ed, eu] at b2
  rw [ez, eu] at c2
  have a4 : rz m2 ≤ c9 := by rw [a2]; exact Nat.le_trans (Az_mono bm bu) sum6
  have b4 : rz d2 ≤ c9 := by rw [b2]; exact Nat.le_trans (Az_mono bd bu) sum6
  have c4 : rz z2 ≤ c10 := by rw [c2]; exact Nat.le_trans (Az_mono bz bu) sum5
  have a5 : rg m 0 ≤ rz m2 := by rw [a2]; refine Nat.le_trans (Nat.le_of_eq (Az_zero (rg_le _ _)).symm) (Az_mono (Nat.le_refl _) (Nat.zero_le _))
  have b5 : rg d 0 ≤ rz d2 := by rw [b2]; refine Nat.le_trans (Nat.le_of_eq (Az_zero (rg_le _ _)).symm) (Az_mono (Nat.le_refl _) (Nat.zero_le _))
  have c5 : rg z 0 ≤ rz z2 := by rw [c2]; refine Nat.le_trans (Nat.le_of_eq (Az_zero (rg_le _ _)).symm) (Az_mono (Nat.le_refl _) (Nat.zero_le _))
  have pm2 := pf_of a3 a4 (by decide)
  have pd2 := pf_of b3 b4 (by decide)
  have pz2 := pf_of c3 c4 (by decide)
  have w : ∀ {x}, Pf x → x < 18446744073709551616 := fun h => by rcases h with h | h <;> omega
  have bm9 : rz (rg m 0) ≤ c9 := by rw [em]; exact Nat.le_trans bm (by decide)
  have bd9 : rz (rg d 0) ≤ c9 := by rw [ed]; exact Nat.le_trans bd (by decide)
  have bz10 : rz (rg z 0) ≤ c10 := by rw [ez]; exact Nat.le_trans bz (by decide)
  have p0 : Pf 0 := .inl (by decide)
  have hml : m * l < 9007199254740992 := Nat.lt_of_le_of_lt (Nat.mul_le_mul hm hl) (by decide)
  have e0 : rz 0 = 0 := rfl
  have z0 : zF (rg m 0) 0 (rg z 0) l = rg (m * l) 0 := by
    unfold zF
    rw [Mz_zero, Mz_zero', Az_zeroM, whole_mul (by omega) (by omega)]
  refine ⟨m2, d2, z2, a1, b1, c1, w pm2, w pd2, w pz2, _, _, _, _, point_at pm bm9 pd bd9 pz bz10 hl, point_at pm2 a4 pd bd9 pz bz10 hl, point_at pm bm9 pd2 b4 pz bz10 hl, point_at pm bm9 pd bd9 pz2 c4 hl, ?_, ?_, ?_, ?_, ?_⟩
  · rw [point_at pm bm9 p0 (by decide) pz bz10 hl, em, e0, ez, z0, ceiV_whole hml]
  · rw [em]; exact ceiV_mono (zF_mono a5 (Nat.le_refl _) (Nat.le_refl _))
  · rw [ed]; exact ceiV_mono (zF_mono (Nat.le_refl _) b5 (Nat.le_refl _))
  · rw [ez]; exact ceiV_mono (zF_mono (Nat.le_refl _) (Nat.le_refl _) c5)
  · rw [em, ed, ez]
    have := ceiV_mono (zF_mono (m := rg m 0) (d := 0) (z := rg z 0) (l := l) (Nat.le_refl _) (Nat.zero_le (rg d 0)) (Nat.le_refl _))
    rw [z0, ceiV_whole hml] at this
    exact this
/-- .. and the mean, as a whole number. -/
theorem mean_int {m : Nat} (hm : m ≤ 1000000) : floatToIntVal .f64 (rg m 0) .i64 = some (m : Int) := by
  obtain ⟨pm, em⟩ := pf_rg (a := m) (by omega)
  unfold floatToIntVal
  show (match (D.read (rg m 0)).toInt .zero with | some n => _ | none => _) = _
  rw [toInt_pf pm]
  have e : flr (rg m 0) = m := by
    unfold flr
    rw [em, (whole_repr (c := m) (by omega)).2, Nat.mul_div_cancel _ U_pos]
  rw [e]
  have h1 : IntKind.i64.min ≤ (m : Int) ∧ (m : Int) ≤ IntKind.i64.max := by
    have e1 : IntKind.i64.min = -9223372036854775808 := rfl
    have e2 : IntKind.i64.max = 9223372036854775807 := rfl
    rw [e1, e2]
    omega
  simp only
  rw [if_pos h1]
end Go.Proofs.Ytoopoecopahcbaa.Fl
