/- Point, in plain words: the words that it reckons. No condition. -/
import Derived.Test.YtoopoecopahcbaaFl3
import Derived.KernelRfl
namespace Go.Proofs.Ytoopoecopahcbaa.Fl
open Go Ieee
set_option linter.unusedVariables false
set_option linter.unusedSimpArgs false

abbrev c9 : Nat := 4741671816366391296
abbrev c10 : Nat := 4621819117588971520
theorem sqrt_table : ((List.range 1001).all fun l => match D.sqrt (D.nearest false l 0) with | some r => decide (r ≤ 4629700416936869888) | none => false) = true := by kernel_rfl
theorem sqrt_some {l : Nat} (h : l ≤ 1000) : ∃ r, D.sqrt (rg l 0) = some r ∧ r ≤ 4629700416936869888 := by
  have := List.all_eq_true.1 sqrt_table l (List.mem_range.2 (by omega))
  show ∃ r, D.sqrt (D.nearest false l 0) = some r ∧ _
  cases hq : D.sqrt (D.nearest false l 0) with
  | none => rw [hq] at this; cases this
  | some r => rw [hq] at this; exact ⟨r, rfl, of_decide_eq_true this⟩
def sq (l : Nat) : Nat := (D.sqrt (rg l 0)).getD 0
/-- The rung of 'mean * lead + z * dev * sqrt(lead)'. -/
def zF (m d z l : Nat) : Nat := Az (Mz m (rg l 0)) (Mz (Mz z d) (sq l))
def ceiV (x : Nat) : Nat := Vr x / U + (if Vr x % U = 0 then 0 else 1)
theorem top_const : rg 2199023255552 0 = 4791830003522207744 := by kernel_rfl
theorem lead_const : rg 1000 0 = 4652007308841189376 := by kernel_rfl
theorem m_const : Mz c9 4652007308841189376 = 4786511204640096256 := by kernel_rfl
theorem s_const : Mz c10 c9 = 4756540486875873280 := by kernel_rfl
theorem s2_const : Mz 4756540486875873280 4629700416936869888 = 4779058485012725760 := by kernel_rfl
theorem z_const : Az 4786511204640096256 4779058485012725760 ≤ 4791830003522207744 := by decide +kernel
theorem Vr_le_top {x : Nat} (h : x ≤ 4791830003522207744) : Vr x ≤ 2199023255552 * U := by
  have := Vr_le h
  rw [← top_const, (whole_repr (c := 2199023255552) (by omega)).2] at this
  exact this
theorem flr_le_top {x : Nat} (h : x ≤ 4791830003522207744) : Vr x / U ≤ 2199023255552 := by
  have := Nat.div_le_div_right (c := U) (Vr_le_top h)
  rw [Nat.mul_div_cancel _ U_pos] at this
  exact this
theorem ceiV_le {x : Nat} (h : x ≤ 4791830003522207744) : ceiV x ≤ 2199023255553 := by
  have := flr_le_top h
  unfold ceiV
  split <;> omega
/-- The words that Point reckons. -/
theorem point_words {mean dev z l : Nat} (hm : Pf mean) (bm : rz mean ≤ c9) (hd : Pf dev) (bd : rz dev ≤ c9) (hz : Pf z) (bz : rz z ≤ c10) (hl : l ≤ 1000) :
    ∃ q m1 s1 s2 zz, D.sqrt (rg l 0) = some q ∧ D.mul mean (rg l 0) = some m1 ∧ D.mul z dev = some s1 ∧ D.mul s1 q = some s2 ∧ D.add m1 s2 = some zz ∧ Pf zz ∧ rz zz = zF (rz mean) (rz dev) (rz z) l ∧ rz zz ≤ 4791830003522207744 := by
  obtain ⟨q, hq, bq⟩ := sqrt_some hl
  have hsq : sq l = q := by unfold sq; rw [hq]; rfl
  have hL := whole_repr (c := l) (by omega)
  have bL : rg l 0 ≤ 4652007308841189376 := by
    rw [← lead_const]
    exact rg_mono 0 (by omega) (by omega) (Nat.mul_le_mul_right _ hl)
  have eL : rz (rg l 0) = rg l 0 := rz_le (by omega)
  have eq : rz q = q := rz_le (by omega)
  obtain ⟨m1, h1, r1, p1⟩ := mul_pf hm (show Pf (rg l 0) from .inl hL.1)
  rw [eL] at r1
  have b1 : rz m1 ≤ 4786511204640096256 := by rw [r1, ← m_const]; exact Mz_mono bm bL
  have f1 := pf_of p1 b1 (by omega)
  obtain ⟨s1, h2, r2, p2⟩ := mul_pf hz hd
  have b2 : rz s1 ≤ 4756540486875873280 := by rw [r2, ← s_const]; exact Mz_mono bz bd
  have f2 := pf_of p2 b2 (by omega)
  obtain ⟨s2, h3, r3, p3⟩ := mul_pf f2 (show Pf q from .inl (by omega))
  rw [eq] at r3
  have b3 : rz s2 ≤ 4779058485012725760 := by rw [r3, ← s2_const]; exact Mz_mono b2 bq
  have f3 := pf_of p3 b3 (by omega)
  obtain ⟨zz, h4, r4, p4⟩ := add_pf f1 f3
  have b4 : rz zz ≤ 4791830003522207744 := by rw [r4]; exact Nat.le_trans (Az_mono b1 b3) z_const
  refine ⟨q, m1, s1, s2, zz, hq, h1, h2, h3, h4, pf_of p4 b4 (by omega), ?_, b4⟩
  rw [r4, r1, r3, r2]
  unfold zF
  rw [hsq]
/-- Its whole number, by Ceil. -/
theorem ceil_words {zz : Nat} (h : Pf zz) (b : rz zz ≤ 4791830003522207744) : (D.read zz).isNaN = false ∧ floatToIntVal .f64 (D.write ((D.read zz).integral .up)) .i64 = some (ceiV (rz zz) : Int) := by
  obtain ⟨a1, a2, a3⟩ := ceil_pf h
  refine ⟨a3, ?_⟩
  have hc : cei zz ≤ 2199023255553 := ceiV_le b
  have hw := whole_repr (c := cei zz) (by omega)
  have hP : Pf (D.write ((D.read zz).integral .up)) := pf_of a2 (Nat.le_of_eq a1) hw.1
  unfold floatToIntVal
  show (match (D.read (D.write ((D.read zz).integral .up))).toInt .zero with | some n => _ | none => _) = _
  rw [toInt_pf hP]
  have e : flr (D.write ((D.read zz).integral .up)) = cei zz := by
    unfold flr
    rw [a1, hw.2, Nat.mul_div_cancel _ U_pos]
  rw [e]
  have h1 : IntKind.i64.min ≤ ((cei zz : Nat) : Int) ∧ ((cei zz : Nat) : Int) ≤ IntKind.i64.max := by
    have e1 : IntKind.i64.min = -9223372036854775808 := rfl
    have e2 : IntKind.i64.max = 9223372036854775807 := rfl
    rw [e1, e2]
    omega
  simp only
  rw [if_pos h1]
  rfl
/-- .. and by the whole part, and one more if that is less. -/
theorem floor_words {zz : Nat} (h : Pf zz) (b : rz zz ≤ 4791830003522207744) : floatToIntVal .f64 zz .i64 = some ((Vr (rz zz) / U : Nat) : Int) ∧ (D.order (rg (Vr (rz zz) / U) 0) zz == some .lt) = !decide (Vr (rz zz) % U = 0) := by
  have hc := flr_le_top b
  have hw := whole_repr (c := Vr (rz zz) / U) (by omega)
  constructor
  · unfold floatToIntVal
    show (match (D.read zz).toInt .zero with | some n => _ | none => _) = _
    rw [toInt_pf h]
    unfold flr
    clear hw
    generalize Vr (rz zz) / U = k at *
    have h1 : IntKind.i64.min ≤ (k : Int) ∧ (k : Int) ≤ IntKind.i64.max := by
      have e1 : IntKind.i64.min = -9223372036854775808 := rfl
      have e2 : IntKind.i64.max = 9223372036854775807 := rfl
      rw [e1, e2]
      omega
    simp only
    rw [if_pos h1]
  · rw [order_pf (.inl hw.1) h, rz_le (by omega)]
    have hd := Nat.div_add_mod (Vr (rz zz)) U
    rcases Nat.lt_trichotomy (rg (Vr (rz zz) / U) 0) (rz zz) with h1 | h1 | h1
    · rw [Nat.compare_eq_lt.2 h1]
      have h2 := Vr_lt h1
      rw [hw.2, Nat.mul_comm] at h2
      rw [decide_eq_false (by omega)]
      rfl
    · have h2 := congrArg Vr h1
      rw [hw.2, Nat.mul_comm] at h2
      rw [Nat.compare_eq_eq.2 h1, decide_eq_true (by omega)]
      rfl
    · have h2 := Vr_lt h1
      rw [hw.2, Nat.mul_comm] at h2
      omega
end Go.Proofs.Ytoopoecopahcbaa.Fl
