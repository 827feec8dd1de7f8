/- Plain laws for PlanWhole: whole numbers divide, smooth and turn exactly. No condition. -/
import Derived.Test.YtoopoecopahcbaaPlReck5
namespace Go.Proofs.Ytoopoecopahcbaa.Fl
open Go Ieee
set_option linter.unusedVariables false
set_option linter.unusedSimpArgs false

theorem fault_ok {zs : List Int} (hl : zs.length ≤ 4096) (h : ∀ z ∈ zs, 0 ≤ z ∧ z ≤ 1099511627776) : faultF zs = 0 := by
  unfold faultF
  rw [if_neg (by omega), if_pos]
  refine List.all_eq_true.2 fun z hz => ?_
  obtain ⟨a, b⟩ := h z hz
  simp [a, b]
theorem log2_mul256 {k c : Nat} (hk : 0 < k) (hc : c ≤ 256) (h0 : 0 < c) : (c * k).log2 ≤ k.log2 + 8 := by
  have h := log2_le_of_pow (m := c * k) (m' := k) (s := 0) (t := 8) (Nat.mul_pos h0 hk) (by
    rw [Nat.pow_zero, Nat.mul_one, Nat.mul_comm]
    exact Nat.mul_le_mul_left _ hc)
  omega
theorem div_whole {c n : Nat} (hn : 1 ≤ n) (hn2 : n < 9007199254740992) (hb : n * c < 9007199254740992) (hc : c ≤ 256) : D.div (rg (n * c) 0) (rg n 0) = some (rg c 0) := by
  obtain ⟨w1, w2⟩ := whole_repr hn2
  obtain ⟨k, j, e', hj, hW⟩ := read_num w1
  obtain ⟨v1, v2⟩ := whole_repr hb
  obtain ⟨m, i, e, hi, hV⟩ := read_num v1
  rw [v2] at hV
  rw [w2] at hW
  have hk : k ≠ 0 := by
    rintro rfl
    rw [Nat.zero_mul] at hW
    have := Nat.mul_pos (show 0 < n by omega) U_pos
    omega
  have hV' : m * 2 ^ (i + 1074).toNat = c * k * 2 ^ (j + 1074).toNat := by
    rw [hV, Nat.mul_assoc c, hW]
    simp only [Nat.mul_assoc, Nat.mul_comm, Nat.mul_left_comm]
  unfold Format.div
  rw [e, e']
  have hq : ∀ d, Datum.quotient d (.number false m i) (.number false k j) = some (.number false (2 * ((m <<< (d + k.log2 - m.log2)) / k) + ((m <<< (d + k.log2 - m.log2)) % k != 0).toNat) (i - j - (d + k.log2 - m.log2 : Nat) - 1)) := by
    intro d
    simp only [Datum.quotient]
    rw [if_neg hk]
    rfl
  rw [hq]
  show some (rg _ _) = _
  congr 1
  by_cases h0 : c = 0
  · subst h0
    have hm : m = 0 := by
      rw [Nat.zero_mul, Nat.zero_mul] at hV'
      rcases Nat.mul_eq_zero.1 hV' with h | h
      · exact h
      · have := Nat.two_pow_pos (i + 1074).toNat
        omega
    subst hm
    rw [Nat.zero_shiftLeft, Nat.zero_div, Nat.zero_mod, rg_zero]
    exact rg_zero _
  · have hm : 0 < m := by
      rcases Nat.eq_zero_or_pos m with rfl | h
      · rw [Nat.zero_mul] at hV'
        have := Nat.mul_pos (Nat.mul_pos (Nat.pos_of_ne_zero h0) (Nat.pos_of_ne_zero hk)) (Nat.two_pow_pos (j + 1074).toNat)
        omega
      · exact h
    have hl := log2_le_of_pow hm (Nat.le_of_eq hV')
    have hl2 := log2_mul256 (Nat.pos_of_ne_zero hk) hc (Nat.pos_of_ne_zero h0)
    show rg (2 * ((m <<< (52 + 2 + k.log2 - m.log2)) / k) + ((m <<< (52 + 2 + k.log2 - m.log2)) % k != 0).toNat) (i - j - (52 + 2 + k.log2 - m.log2 : Nat) - 1) = _
    generalize hr : 52 + 2 + k.log2 - m.log2 = more at *
    obtain ⟨d, hd⟩ : ∃ d, (j + 1074).toNat + more = (i + 1074).toNat + d := ⟨(j + 1074).toNat + more - (i + 1074).toNat, by omega⟩
    have hx : m * 2 ^ more = c * 2 ^ d * k := by
      have h1 : m * 2 ^ more * 2 ^ (i + 1074).toNat = c * 2 ^ d * k * 2 ^ (i + 1074).toNat := by
        calc m * 2 ^ more * 2 ^ (i + 1074).toNat = m * 2 ^ (i + 1074).toNat * 2 ^ more := by simp only [Nat.mul_assoc, Nat.mul_comm, Nat.mul_left_comm]
          _ = c * k * 2 ^ (j + 1074).toNat * 2 ^ more := by rw [hV']
          _ = c * k * (2 ^ ((j + 1074).toNat + more)) := by rw [Nat.pow_add]; simp only [Nat.mul_assoc]
          _ = c * k * (2 ^ ((i + 1074).toNat + d)) := by rw [hd]
          _ = c * 2 ^ d * k * 2 ^ (i + 1074).toNat := by rw [Nat.pow_add]; simp only [Nat.mul_assoc, Nat.mul_comm, Nat.mul_left_comm]
      exact Nat.eq_of_mul_eq_mul_right (Nat.two_pow_pos _) h1
    rw [Nat.shiftLeft_eq, hx, Nat.mul_div_cancel _ (Nat.pos_of_ne_zero hk), Nat.mul_mod_left]
    show rg (2 * (c * 2 ^ d) + 0) _ = _
    have hp : i - j - (more : Int) - 1 = -((d : Int) + 1) := by omega
    rw [hp]
    refine rg_same (-((d : Int) + 1)) (Int.le_refl _) (by omega) ?_
    rw [show (-((d : Int) + 1) - -((d : Int) + 1)).toNat = 0 by omega, show ((0 : Int) - -((d : Int) + 1)).toNat = d + 1 by omega, Nat.pow_zero, Nat.mul_one, Nat.pow_succ]
    simp only [Nat.mul_assoc, Nat.mul_comm, Nat.mul_left_comm, Nat.add_zero]

/-! ### A list of one number -/
theorem rep_get (c : Int) (n k : Nat) (h : k < n) : (List.replicate n c).getD k 0 = c := by
  rw [List.getD_eq_getElem?_getD, List.getElem?_replicate, if_pos h]
  rfl
theorem rep_sum (c : Int) (n : Nat) : sumI (List.replicate n c) n = n * c := by
  unfold sumI
  rw [List.take_of_length_le (by simp)]
  exact List.sum_replicate_int
theorem rep_mean {c n : Nat} (hn : 1 ≤ n) (hn2 : n ≤ 256) (hc : c ≤ 256) : meanF (List.replicate n (c : Int)) = rg c 0 := by
  have hb : n * c < 9007199254740992 := Nat.lt_of_le_of_lt (Nat.mul_le_mul hn2 hc) (by decide)
  unfold meanF
  rw [List.length_replicate, rep_sum, show ((n : Int) * (c : Int)) = ((n * c : Nat) : Int) by simp, floatOfInt_nat, floatOfInt_nat]
  unfold fdiv
  rw [div_whole hn (by omega) hb hc]
  rfl
theorem sub_zero {c : Nat} (hc : c ≤ 256) : fsub (rg c 0) (rg c 0) = 0 := by
  obtain ⟨w1, w2⟩ := whole_repr (c := c) (by omega)
  obtain ⟨m, i, e, hi, hV⟩ := read_num w1
  unfold fsub
  rw [sub_self (by unfold fin; rw [e])]
  rfl
theorem zz_mul : fmul 0 0 = 0 := by decide +kernel
theorem zz_add : fadd 0 0 = 0 := by decide +kernel
theorem rep_sq {c n : Nat} (hc : c ≤ 256) : ∀ k, k ≤ n → sqF (List.replicate n (c : Int)) (rg c 0) k = 0
  | 0, _ => rfl
  | k + 1, h => by
    show fadd (sqF _ _ k) _ = 0
    rw [rep_sq hc k (by omega), rep_get _ _ _ (by omega), floatOfInt_nat, sub_zero hc, zz_mul, zz_add]
theorem rep_dev {c n : Nat} (hn : 1 ≤ n) (hn2 : n ≤ 256) (hc : c ≤ 256) : devF (List.replicate n (c : Int)) = 0 := by
  unfold devF
  rw [rep_mean hn hn2 hc, List.length_replicate, rep_sq hc n (Nat.le_refl _), floatOfInt_nat]
  have h := div_whole (c := 0) hn (by omega) (by omega) (by omega)
  rw [Nat.mul_zero, rg_zero] at h
  unfold fdiv
  rw [h]
  decide +kernel

/-! ### Smoothing -/
theorem sm_inv {zs : List Int} (h : faultF zs = 0) {w r0 : Nat} (hw : w < 18446744073709551616) (hok : wOk w = true) (hr : D.sub one w = some r0) (pr : Pf r0)
    (H : ∀ k, 0 < k → (hk : k < zs.length) → Mz (rz w) (rg (zs[k].toNat) 0) < 9218868437227405312 ∧ Mz (rz r0) (rg ((zs[k - 1]'(by omega)).toNat) 0) < 9218868437227405312 ∧
      Az (Mz (rz w) (rg (zs[k].toNat) 0)) (Mz (rz r0) (rg ((zs[k - 1]'(by omega)).toNat) 0)) = rg (zs[k].toNat) 0) :
    ∀ k, k ≤ zs.length → ∀ j, (hj : j < k) → (hz : j < zs.length) → ∃ y, (smF zs w k)[j]? = some y ∧ Pf y ∧ rz y = rg (zs[j].toNat) 0
  | 0, _, j, hj, _ => by omega
  | k + 1, hk, j, hj, hz => by
    obtain ⟨hl, hg⟩ := fault_good h
    obtain ⟨pw, bw⟩ := wOk_pf hw hok
    obtain ⟨y, e, py, _, h0, h1⟩ := sm_words h hw hok k (by omega)
    rw [e]
    by_cases hjk : j < k
    · rw [List.getElem?_append_left (by rw [smF_len]; omega)]
      exact sm_inv h hw hok hr pr H k (by omega) j hjk hz
    · obtain rfl : j = k := by omega
      rw [List.getElem?_append_right (by rw [smF_len]; omega), smF_len, Nat.sub_self]
      refine ⟨y, rfl, ?_⟩
      have hb : zs[j]! = zs[j] := getElem!_pos zs j hz
      obtain ⟨c, d⟩ := hg zs[j] (List.getElem_mem _)
      obtain ⟨n, hn⟩ := Int.eq_ofNat_of_zero_le c
      have hn2 : n < 9007199254740992 := by omega
      rw [hb] at h0 h1
      have key : rz y = rg (zs[j].toNat) 0 := by
        by_cases hj0 : j = 0
        · rw [h0 hj0, hn, floatOfInt_nat, Int.toNat_natCast]
          exact rz_le (rg_le _ _)
        · obtain ⟨a, r, p, b, ep, ea, er, eb, ey⟩ := h1 (by omega)
          obtain ⟨p', ep', pp, vp⟩ := sm_inv h hw hok hr pr H j (by omega) (j - 1) (by omega) (by omega)
          rw [ep] at ep'
          cases ep'
          rw [hr] at er
          cases er
          obtain ⟨f1, f2, f3⟩ := H j (by omega) hz
          rw [hn, floatOfInt_nat] at ea
          obtain ⟨q1, q2⟩ := pf_rg hn2
          obtain ⟨a', ea', va, pa⟩ := mul_pf pw q1
          rw [ea] at ea'
          cases ea'
          rw [q2] at va
          obtain ⟨b', eb', vb, pb⟩ := mul_pf pr pp
          rw [eb] at eb'
          cases eb'
          rw [vp] at vb
          rw [hn, Int.toNat_natCast] at f1 f3
          have ha := pf_of pa (Nat.le_of_eq va) f1
          have hbb := pf_of pb (Nat.le_of_eq vb) f2
          obtain ⟨y', ey', vy, _⟩ := add_pf ha hbb
          rw [ey] at ey'
          cases ey'
          rw [vy, va, vb, f3, hn, Int.toNat_natCast]
      refine ⟨?_, key⟩
      rw [hn, Int.toNat_natCast] at key
      exact pf_of py (Nat.le_of_eq key) (whole_repr hn2).1
abbrev half : Nat := 4602678819172646912
theorem one_ok : wOk one = true := by decide +kernel
theorem half_ok : wOk half = true := by decide +kernel
theorem one_sub : D.sub one one = some 0 := by decide +kernel
theorem half_sub : D.sub one half = some half := by decide +kernel
theorem half_table : ((List.range 257).all fun c => decide (Mz half (rg c 0) < 9218868437227405312) && decide (Az (Mz half (rg c 0)) (Mz half (rg c 0)) = rg c 0)) = true := by kernel_rfl
theorem half_at {c : Nat} (h : c ≤ 256) : Mz half (rg c 0) < 9218868437227405312 ∧ Az (Mz half (rg c 0)) (Mz half (rg c 0)) = rg c 0 := by
  have := List.all_eq_true.1 half_table c (List.mem_range.2 (by omega))
  simpa using this
theorem smooth_one {zs : List Int} (h : faultF zs = 0) : ∀ j, (hz : j < zs.length) → ∃ y, (smF zs one zs.length)[j]? = some y ∧ Pf y ∧ rz y = rg (zs[j].toNat) 0 := fun j hz => by
  refine sm_inv h (by decide) one_ok one_sub (.inl (by decide)) (fun k h0 hk => ?_) zs.length (Nat.le_refl _) j hz hz
  have r1 : rz one = one := rz_le (by decide)
  have r2 : rz 0 = 0 := rfl
  obtain ⟨hl, hg⟩ := fault_good h
  obtain ⟨c, d⟩ := hg zs[k] (List.getElem_mem _)
  rw [r1, r2, Mz_one (rg_le _ _), Mz_zero', Az_zero (rg_le _ _)]
  exact ⟨(whole_repr (by omega)).1, by decide, rfl⟩
theorem smooth_half {c n : Nat} (hc : c ≤ 256) (hn : n ≤ 4096) : ∀ j, (hz : j < n) → ∃ y, (smF (List.replicate n (c : Int)) half n)[j]? = some y ∧ Pf y ∧ rz y = rg c 0 := fun j hz => by
  have h : faultF (List.replicate n (c : Int)) = 0 := fault_ok (by rw [List.length_replicate]; exact hn) (fun z hz => by
    rw [List.mem_replicate] at hz
    obtain ⟨_, rfl⟩ := hz
    omega)
  have := sm_inv h (w := half) (r0 := half) (by decide) half_ok half_sub (.inl (by decide)) (fun k h0 hk => ?_) n (by simp) j hz (by simpa using hz)
  · simpa using this
  · have r1 : rz half = half := rz_le (by decide)
    simp only [List.getElem_replicate, Int.toNat_natCast]
    rw [r1]
    obtain ⟨a, b⟩ := half_at hc
    exact ⟨a, a, b⟩

/-! ### The quarters -/
theorem sJ_all {zs : List Int} : ∀ k, k ≤ zs.length → sJ zs 0 k + sJ zs 1 k + sJ zs 2 k + sJ zs 3 k = sumI zs k
  | 0, _ => by simp [sJ, sumI]
  | k + 1, hk => by
    have ih := sJ_all (zs := zs) k (by omega)
    rw [sumI_succ (by omega), ← ih]
    have h4 : k % 4 = 0 ∨ k % 4 = 1 ∨ k % 4 = 2 ∨ k % 4 = 3 := by omega
    rcases h4 with h | h | h | h
    · rw [sJ_yes (j := 0) (by omega) h, sJ_no (j := 1) (by omega), sJ_no (j := 2) (by omega), sJ_no (j := 3) (by omega)]; omega
    · rw [sJ_no (j := 0) (by omega), sJ_yes (j := 1) (by omega) h, sJ_no (j := 2) (by omega), sJ_no (j := 3) (by omega)]; omega
    · rw [sJ_no (j := 0) (by omega), sJ_no (j := 1) (by omega), sJ_yes (j := 2) (by omega) h, sJ_no (j := 3) (by omega)]; omega
    · rw [sJ_no (j := 0) (by omega), sJ_no (j := 1) (by omega), sJ_no (j := 2) (by omega), sJ_yes (j := 3) (by omega) h]; omega
theorem sJ_moved {zs : List Int} {j : Nat} (hj : j < 4) : ∀ k, sJ (0 :: zs) j (k + 1) = sJ zs ((j + 3) % 4) k
  | 0 => by
    show 0 + (if 0 % 4 = j then (0 :: zs).getD 0 0 else 0) = 0
    simp
  | k + 1 => by
    show sJ (0 :: zs) j (k + 1) + (if (k + 1) % 4 = j then (0 :: zs).getD (k + 1) 0 else 0) = sJ zs ((j + 3) % 4) k + (if k % 4 = (j + 3) % 4 then zs.getD k 0 else 0)
    rw [sJ_moved hj k, List.getD_cons_succ]
    by_cases h : (k + 1) % 4 = j
    · rw [if_pos h, if_pos (by omega)]
    · rw [if_neg h, if_neg (by omega)]
def qX (zs : List Int) : Int := sJ zs 0 zs.length - sJ zs 2 zs.length
def qY (zs : List Int) : Int := sJ zs 3 zs.length - sJ zs 1 zs.length
def qZ (zs : List Int) : Int := sJ zs 0 zs.length - sJ zs 1 zs.length + sJ zs 2 zs.length - sJ zs 3 zs.length
theorem F_zero : F 0 = 0 := by decide +kernel
theorem quV_whole {zs : List Int} (h : faultF zs = 0) : quV zs = .tuple #[.agg #[.complex .f64 (F (sumI zs zs.length)) 0, .complex .f64 (F (qX zs)) (F (qY zs)), .complex .f64 (F (qZ zs)) 0, .complex .f64 (F (qX zs)) (F (-qY zs))], .int .i64 0] := by
  unfold quV quA quB
  simp only [h, if_true]
  have e : -qY zs = quIm zs zs.length 3 := by
    show -(sJ zs 3 zs.length - sJ zs 1 zs.length) = sJ zs 1 zs.length - sJ zs 3 zs.length
    omega
  rw [e, ← sJ_all zs.length (Nat.le_refl _)]
  have z0 : F (quIm zs zs.length 0) = 0 := F_zero
  have z2 : F (quIm zs zs.length 2) = 0 := F_zero
  rw [z0, z2]
  rfl
theorem moved_qX (zs : List Int) : qX (0 :: zs) = qY zs := by
  unfold qX qY
  rw [List.length_cons, sJ_moved (by omega), sJ_moved (by omega)]
theorem moved_qY (zs : List Int) : qY (0 :: zs) = -qX zs := by
  unfold qX qY
  rw [List.length_cons, sJ_moved (by omega), sJ_moved (by omega)]
  show sJ zs 2 zs.length - sJ zs 0 zs.length = _
  omega
theorem moved_qZ (zs : List Int) : qZ (0 :: zs) = -qZ zs := by
  unfold qZ
  rw [List.length_cons, sJ_moved (by omega), sJ_moved (by omega), sJ_moved (by omega), sJ_moved (by omega)]
  show sJ zs 3 zs.length - sJ zs 0 zs.length + sJ zs 1 zs.length - sJ zs 2 zs.length = _
  omega
theorem eq_ok {r : Nat} (h : Ok r) : (FloatKind.f64.format.order r r != some .eq) = false := by
  rw [order_fmt, order_self]
  unfold Ok at h
  rw [h]
  rfl
theorem xor_low {b : Nat} (h : b < 9223372036854775808) : b ^^^ 9223372036854775808 = b + 9223372036854775808 ∧ (b + 9223372036854775808) ^^^ 9223372036854775808 = b := by
  have e : b + 9223372036854775808 = b ^^^ 9223372036854775808 := by
    have := Nat.two_pow_add_eq_or_of_lt (i := 63) h 1
    rw [Nat.add_comm, show (9223372036854775808 : Nat) = 2 ^ 63 * 1 from rfl, this]
    apply Nat.eq_of_testBit_eq
    intro i
    rw [Nat.testBit_or, Nat.testBit_xor, show (2 ^ 63 * 1 : Nat) = 2 ^ 63 from rfl, Nat.testBit_two_pow]
    by_cases hi : 63 = i
    · subst hi
      rw [Nat.testBit_lt_two_pow h]
      rfl
    · simp [hi]
  refine ⟨e.symm, ?_⟩
  rw [e, Nat.xor_assoc, Nat.xor_self, Nat.xor_zero]
theorem nearest_neg {m : Nat} (hm : m ≠ 0) (p : Int) : D.nearest true m p = rg m p + 9223372036854775808 := by
  unfold rg Format.nearest
  rw [if_neg hm, if_neg hm]
  dsimp only
  unfold Format.word
  rw [if_pos rfl, if_neg (by decide), sw, cut_even, cut_even, Nat.add_comm]
theorem neg_same (n : Int) : (FloatKind.f64.format.order (F (-n)) (F n ^^^ 9223372036854775808) != some .eq) = false := by
  rw [order_fmt]
  have pos : ∀ m : Nat, F (m : Int) = rg m 0 := fun m => floatOfInt_nat m
  have neg : ∀ m : Nat, 0 < m → F (-(m : Int)) = rg m 0 + 9223372036854775808 := by
    intro m hm
    show D.nearest (decide (-(m : Int) < 0)) (-(m : Int)).natAbs 0 = _
    rw [decide_eq_true (by omega), Int.natAbs_neg, Int.natAbs_natCast]
    exact nearest_neg (by omega) 0
  have lt : ∀ m : Nat, rg m 0 < 9223372036854775808 := fun m => Nat.lt_of_le_of_lt (rg_le m 0) (by decide)
  have same : ∀ r, Ok r → (D.order r r != some .eq) = false := by
    intro r h
    have := eq_ok h
    rw [order_fmt] at this
    exact this
  rcases Int.lt_trichotomy n 0 with h | h | h
  · obtain ⟨m, hm⟩ := Int.eq_ofNat_of_zero_le (show 0 ≤ -n by omega)
    have e : n = -(m : Int) := by omega
    have h0 : 0 < m := by omega
    rw [hm, e, pos, neg m h0, (xor_low (lt m)).2, ← pos]
    exact same _ (fI_ok _)
  · subst h
    rw [Int.neg_zero, F_zero]
    decide +kernel
  · obtain ⟨m, hm⟩ := Int.eq_ofNat_of_zero_le (show 0 ≤ n by omega)
    have h0 : 0 < m := by omega
    rw [hm, pos, neg m h0, (xor_low (lt m)).1, ← neg m h0]
    exact same _ (fI_ok _)
theorem rz_same {y c : Nat} (hc : c < 9007199254740992) (py : Pf y) (h : rz y = rg c 0) : (FloatKind.f64.format.order y (floatOfInt .f64 (c : Int)) != some .eq) = false := by
  obtain ⟨q1, q2⟩ := pf_rg hc
  rw [order_fmt, floatOfInt_nat, order_pf py q1, h, q2]
  have : compare (rg c 0) (rg c 0) = .eq := by simp
  rw [this]
  rfl
end Go.Proofs.Ytoopoecopahcbaa.Fl
