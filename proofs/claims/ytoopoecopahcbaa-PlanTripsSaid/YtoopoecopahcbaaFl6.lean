/- Plain laws on the model's floats (float64): what never comes to a NaN; Stats, Smooth. No condition. -/
import Derived.Test.YtoopoecopahcbaaFl5
namespace Go.Proofs.Ytoopoecopahcbaa.Fl
open Go Ieee
set_option linter.unusedVariables false
set_option linter.unusedSimpArgs false

def Ok (b : Nat) : Prop := (D.read b).isNaN = false
theorem word_ok (s : Bool) {r : Nat} (h : r ≤ 9218868437227405312) : Ok (D.word s r) := by
  unfold Ok
  rw [read_def]
  have e : D.word s r % 9223372036854775808 = r := by
    cases s
    · exact Nat.mod_eq_of_lt (by show r < _; omega)
    · show (D.signWeight + r) % _ = r
      rw [sw]; omega
  rw [e]
  split
  · rfl
  · split
    · rfl
    · split
      · rfl
      · omega
theorem nearest_ok (s : Bool) (m : Nat) (i : Int) : Ok (D.nearest s m i) := by
  unfold Format.nearest
  split
  · exact word_ok s (by omega)
  · dsimp only
    rw [ir]
    exact word_ok s (Nat.min_le_right _ _)
theorem write_ok {d : Datum} (h : d.isNaN = false) : Ok (D.write d) := by
  cases d with
  | number s m i => exact nearest_ok s m i
  | infinity s => exact word_ok s (by decide)
  | nan s t => cases h
theorem Nn_ok {b : Nat} (h : Nn b) : Ok b := by
  unfold Ok
  rcases nn_read h with ⟨m, i, e⟩ | e <;> rw [e] <;> rfl
theorem Ok_read {b : Nat} (h : Ok b) : (∃ s m i, D.read b = .number s m i) ∨ ∃ s, D.read b = .infinity s := by
  unfold Ok at h
  cases hd : D.read b with
  | number s m i => exact .inl ⟨_, _, _, rfl⟩
  | infinity s => exact .inr ⟨_, rfl⟩
  | nan s t => rw [hd] at h; cases h
theorem sub_ok {a b : Nat} (ha : ∃ s m i, D.read a = .number s m i) (hb : Ok b) : ∃ r, D.sub a b = some r ∧ Ok r := by
  obtain ⟨s, m, i, ea⟩ := ha
  unfold Format.sub
  rw [ea]
  rcases Ok_read hb with ⟨t, n, j, eb⟩ | ⟨t, eb⟩ <;> rw [eb]
  · exact ⟨_, rfl, write_ok rfl⟩
  · exact ⟨_, rfl, write_ok rfl⟩
theorem mul_self_ok {b : Nat} (h : Ok b) : ∃ r, D.mul b b = some r ∧ Nn r := by
  unfold Format.mul
  rcases Ok_read h with ⟨s, m, i, e⟩ | ⟨s, e⟩ <;> rw [e]
  · refine ⟨D.nearest (s ^^ s) (m * m) (i + i), rfl, ?_⟩
    rw [Bool.xor_self]
    exact nearest_nn _ _
  · refine ⟨D.word (s ^^ s) D.infRung, rfl, ?_⟩
    rw [Bool.xor_self]
    show (9218868437227405312 : Nat) ≤ 9218868437227405312
    omega
theorem div_ok {a n : Nat} (ha : Nn a) (h1 : 1 ≤ n) (h2 : n < 9007199254740992) : ∃ r, D.div a (rg n 0) = some r ∧ Nn r := by
  obtain ⟨w1, w2⟩ := whole_repr h2
  obtain ⟨m, i, e, hi, hV⟩ := read_num w1
  have hm : m ≠ 0 := by
    rintro rfl
    rw [Nat.zero_mul, w2] at hV
    have := Nat.mul_pos (show 0 < n by omega) U_pos
    omega
  unfold Format.div
  rw [e]
  rcases nn_read ha with ⟨k, j, ea⟩ | ea <;> rw [ea]
  · have hq : ∀ d, Datum.quotient d (.number false k j) (.number false m i) = some (.number false (2 * ((k <<< (d + m.log2 - k.log2)) / m) + ((k <<< (d + m.log2 - k.log2)) % m != 0).toNat) (j - i - (d + m.log2 - k.log2 : Nat) - 1)) := by
      intro d
      simp only [Datum.quotient]
      rw [if_neg hm]
      rfl
    rw [hq]
    exact ⟨_, rfl, nearest_nn _ _⟩
  · exact ⟨D.word false D.infRung, rfl, by show (9218868437227405312 : Nat) ≤ 9218868437227405312; omega⟩
theorem sqrt_ok {a : Nat} (ha : Nn a) : ∃ r, D.sqrt a = some r ∧ Ok r := by
  unfold Format.sqrt
  rcases nn_read ha with ⟨k, j, ea⟩ | ea <;> rw [ea]
  · simp only [Datum.root]
    split
    · exact ⟨_, rfl, write_ok rfl⟩
    · exact ⟨_, rfl, write_ok rfl⟩
  · exact ⟨_, rfl, write_ok rfl⟩
theorem fI_ok (n : Int) : Ok (floatOfInt .f64 n) := by
  show Ok (D.write (.number (decide (n < 0)) n.natAbs 0))
  exact write_ok rfl
theorem fI_num {n : Nat} (h : n < 9007199254740992) : ∃ s m i, D.read (rg n 0) = .number s m i := by
  obtain ⟨m, i, e, _⟩ := read_num (whole_repr h).1
  exact ⟨_, _, _, e⟩

/-! ### Stats -/
def fadd (a b : Nat) : Nat := (D.add a b).getD 0
def fsub (a b : Nat) : Nat := (D.sub a b).getD 0
def fmul (a b : Nat) : Nat := (D.mul a b).getD 0
def fdiv (a b : Nat) : Nat := (D.div a b).getD 0
def fsqrt (a : Nat) : Nat := (D.sqrt a).getD 0
def most : Nat := 1099511627776
/-- What keeps a history from being reckoned with. -/
def faultF (zs : List Int) : Int := if zs.length > 4096 then 1 else if zs.all (fun z => decide (0 ≤ z) && decide (z ≤ 1099511627776)) = true then 0 else 172
theorem fault_good {zs : List Int} (h : faultF zs = 0) : zs.length ≤ 4096 ∧ ∀ z ∈ zs, 0 ≤ z ∧ z ≤ 1099511627776 := by
  unfold faultF at h
  split at h
  · cases h
  · split at h
    · rename_i h1 h2
      refine ⟨by omega, fun z hz => ?_⟩
      have := List.all_eq_true.1 h2 z hz
      simpa using this
    · cases h
def sumI (zs : List Int) (k : Nat) : Int := (zs.take k).sum
theorem sumI_succ {zs : List Int} {k : Nat} (h : k < zs.length) : sumI zs (k + 1) = sumI zs k + zs[k] := by
  unfold sumI
  rw [List.take_succ_eq_append_getElem h, List.sum_append]
  simp
theorem sumI_bound {zs : List Int} (h : ∀ z ∈ zs, 0 ≤ z ∧ z ≤ 1099511627776) : ∀ k, k ≤ zs.length → 0 ≤ sumI zs k ∧ sumI zs k ≤ (k : Int) * 1099511627776
  | 0, _ => by unfold sumI; simp
  | k + 1, hk => by
    obtain ⟨a, b⟩ := sumI_bound h k (by omega)
    obtain ⟨c, d⟩ := h zs[k] (List.getElem_mem _)
    rw [sumI_succ (by omega)]
    omega
def meanF (zs : List Int) : Nat := fdiv (floatOfInt .f64 (sumI zs zs.length)) (floatOfInt .f64 (zs.length : Int))
def sqF (zs : List Int) (mean : Nat) : Nat → Nat
  | 0 => 0
  | k + 1 => fadd (sqF zs mean k) (fmul (fsub (floatOfInt .f64 (zs.getD k 0)) mean) (fsub (floatOfInt .f64 (zs.getD k 0)) mean))
def devF (zs : List Int) : Nat := fsqrt (fdiv (sqF zs (meanF zs) zs.length) (floatOfInt .f64 (zs.length : Int)))
theorem some_getD {a : Option Nat} {r : Nat} (h : a = some r) : a = some (a.getD 0) := by rw [h]; rfl
theorem mean_ok {zs : List Int} (h : faultF zs = 0) (h1 : zs ≠ []) : D.div (floatOfInt .f64 (sumI zs zs.length)) (floatOfInt .f64 (zs.length : Int)) = some (meanF zs) ∧ Nn (meanF zs) := by
  obtain ⟨hl, hz⟩ := fault_good h
  obtain ⟨a, b⟩ := sumI_bound hz zs.length (Nat.le_refl _)
  have hn : 1 ≤ zs.length := by
    rcases zs with _ | ⟨z, zs⟩
    · exact absurd rfl h1
    · simp
  obtain ⟨s, hs⟩ := Int.eq_ofNat_of_zero_le a
  unfold meanF
  rw [hs, floatOfInt_nat, floatOfInt_nat]
  obtain ⟨r, e, hr⟩ := div_ok (a := rg s 0) (rg_le _ _) hn (by omega)
  unfold fdiv
  rw [e]
  exact ⟨rfl, hr⟩
theorem sq_step {zs : List Int} (h : faultF zs = 0) {mean : Nat} (hm : Nn mean) : ∀ k, k ≤ zs.length → Nn (sqF zs mean k)
  | 0, _ => Nat.zero_le _
  | k + 1, hk => by
    obtain ⟨hl, hz⟩ := fault_good h
    obtain ⟨c, d⟩ := hz zs[k] (List.getElem_mem _)
    have hg : zs.getD k 0 = zs[k] := by rw [List.getD_eq_getElem?_getD, List.getElem?_eq_getElem (by omega)]; rfl
    obtain ⟨n, hn⟩ := Int.eq_ofNat_of_zero_le c
    have ih := sq_step h hm k (by omega)
    show Nn (fadd (sqF zs mean k) _)
    rw [hg, hn, floatOfInt_nat]
    obtain ⟨r, e, hr⟩ := sub_ok (fI_num (n := n) (by omega)) (Nn_ok hm)
    obtain ⟨q, e', hq⟩ := mul_self_ok hr
    obtain ⟨t, e'', ht⟩ := add_nn ih hq
    unfold fadd fmul fsub
    rw [e]
    simp only [Option.getD_some]
    rw [e']
    simp only [Option.getD_some]
    rw [e'']
    exact ht
theorem sq_words {zs : List Int} (h : faultF zs = 0) {mean : Nat} (hm : Nn mean) {k : Nat} (hk : k < zs.length) :
    ∃ d q, D.sub (floatOfInt .f64 zs[k]) mean = some d ∧ D.mul d d = some q ∧ D.add (sqF zs mean k) q = some (sqF zs mean (k + 1)) := by
  obtain ⟨hl, hz⟩ := fault_good h
  obtain ⟨c, d⟩ := hz zs[k] (List.getElem_mem _)
  have hg : zs.getD k 0 = zs[k] := by rw [List.getD_eq_getElem?_getD, List.getElem?_eq_getElem hk]; rfl
  obtain ⟨n, hn⟩ := Int.eq_ofNat_of_zero_le c
  have ih := sq_step h hm k (by omega)
  have hs : sqF zs mean (k + 1) = fadd (sqF zs mean k) (fmul (fsub (floatOfInt .f64 (zs.getD k 0)) mean) (fsub (floatOfInt .f64 (zs.getD k 0)) mean)) := rfl
  rw [hs, hg, hn, floatOfInt_nat]
  obtain ⟨r, e, hr⟩ := sub_ok (fI_num (n := n) (by omega)) (Nn_ok hm)
  obtain ⟨q, e', hq⟩ := mul_self_ok hr
  obtain ⟨t, e'', ht⟩ := add_nn ih hq
  refine ⟨r, q, e, e', ?_⟩
  unfold fadd fmul fsub
  rw [e]
  simp only [Option.getD_some]
  rw [e']
  simp only [Option.getD_some]
  rw [e'']
  rfl
theorem dev_words {zs : List Int} (h : faultF zs = 0) (h1 : zs ≠ []) : ∃ q, D.div (sqF zs (meanF zs) zs.length) (floatOfInt .f64 (zs.length : Int)) = some q ∧ D.sqrt q = some (devF zs) ∧ Ok (devF zs) := by
  obtain ⟨_, hm⟩ := mean_ok h h1
  obtain ⟨hl, _⟩ := fault_good h
  have hn : 1 ≤ zs.length := by
    rcases zs with _ | ⟨z, zs⟩
    · exact absurd rfl h1
    · simp
  have hs := sq_step h hm zs.length (Nat.le_refl _)
  obtain ⟨q, e, hq⟩ := div_ok hs hn (by omega)
  obtain ⟨r, e', hr⟩ := sqrt_ok hq
  rw [floatOfInt_nat]
  refine ⟨q, e, ?_, ?_⟩
  all_goals
    unfold devF
    rw [floatOfInt_nat]
    unfold fsqrt fdiv
    rw [e]
    simp only [Option.getD_some]
    rw [e']
  · rfl
  · exact hr

/-! ### Smooth -/
abbrev one : Nat := 4607182418800017408
theorem one_rg : rg 1 0 = one := by kernel_rfl
theorem Mz_one {y : Nat} (h : y ≤ 9218868437227405312) : Mz one y = y := by
  unfold Mz
  rw [← one_rg, (whole_repr (c := 1) (by omega)).2, Nat.one_mul]
  have : rg (U * Vr y) (-2148) = rg (Vr y) (-1074) := by
    refine rg_same (-2148) (Int.le_refl _) (by omega) ?_
    rw [show ((-2148 : Int) - -2148).toNat = 0 from rfl, Nat.pow_zero, Nat.mul_one, show ((-1074 : Int) - -2148).toNat = E from rfl, Nat.mul_comm]
    unfold U
    generalize 2 ^ E = u
    rfl
  rw [this, rg_Vr h]
theorem rest_words {w : Nat} (hw : Pf w) (hb : rz w ≤ one) : ∃ r, D.sub one w = some r ∧ r ≤ one := by
  obtain ⟨m, i, e, hi, hV⟩ := read_num (b := one) (by decide)
  obtain ⟨s, n, j, e', hs, hj, hW⟩ := read_pf hw
  have hle : n * 2 ^ (j - min i j).toNat ≤ m * 2 ^ (i - min i j).toNat := by
    have h := Vr_le hb
    rw [← hV, ← hW] at h
    exact pow_shift h (by omega)
  have hT : signed false m (i - min i j).toNat + signed (!s) n (j - min i j).toNat = ((m * 2 ^ (i - min i j).toNat - n * 2 ^ (j - min i j).toNat : Nat) : Int) := by
    rw [signed_nn (s := false) (m := m) (fun h => by cases h)]
    cases s
    · show _ + -((n <<< (j - min i j).toNat : Nat) : Int) = _
      rw [Nat.shiftLeft_eq]
      omega
    · rw [hs rfl]
      show _ + ((0 <<< (j - min i j).toNat : Nat) : Int) = _
      rw [Nat.zero_shiftLeft, Nat.zero_mul]
      omega
  refine ⟨rg (m * 2 ^ (i - min i j).toNat - n * 2 ^ (j - min i j).toNat) (min i j), ?_, ?_⟩
  · unfold Format.sub
    rw [e, e']
    show some (D.write (.number (if signed false m (i - min i j).toNat + signed (!s) n (j - min i j).toNat = 0 then (false && !s) else decide (signed false m (i - min i j).toNat + signed (!s) n (j - min i j).toNat < 0)) (signed false m (i - min i j).toNat + signed (!s) n (j - min i j).toNat).natAbs (min i j))) = _
    rw [hT]
    generalize m * 2 ^ (i - min i j).toNat - n * 2 ^ (j - min i j).toNat = N
    have hsg : (if ((N : Nat) : Int) = 0 then (false && !s) else decide (((N : Nat) : Int) < 0)) = false := by
      split
      · rfl
      · exact decide_eq_false (by omega)
    rw [hsg]
    rfl
  · have h1 : rg (m * 2 ^ (i - min i j).toNat) (min i j) = one := by
      refine rg_fix (by decide) (by omega) ?_
      rw [Nat.mul_assoc, ← Nat.pow_add, show (i - min i j).toNat + (min i j + 1074).toNat = (i + 1074).toNat by omega, hV]
    refine Nat.le_trans (rg_mono (min i j) (Int.le_refl _) (Int.le_refl _) (Nat.mul_le_mul_right _ (Nat.sub_le _ _))) (Nat.le_of_eq h1)
/-- May the weight be one? -/
def wOk (w : Nat) : Bool := D.order w 0 == some .gt && leC w one
theorem wOk_pf {w : Nat} (hw : w < 18446744073709551616) (h : wOk w = true) : Pf w ∧ rz w ≤ one := by
  unfold wOk at h
  rw [Bool.and_eq_true] at h
  refine pf_of_bt hw (by decide) ?_ h.2
  unfold ge0
  rw [h.1]
  rfl
def smF (zs : List Int) (w : Nat) : Nat → List Nat
  | 0 => []
  | k + 1 => smF zs w k ++ [if k = 0 then floatOfInt .f64 (zs.getD 0 0) else fadd (fmul w (floatOfInt .f64 (zs.getD k 0))) (fmul (fsub one w) ((smF zs w k).getD (k - 1) 0))]
theorem smF_len (zs : List Int) (w : Nat) : ∀ k, (smF zs w k).length = k
  | 0 => rfl
  | k + 1 => by unfold smF; rw [List.length_append, smF_len]; rfl
theorem whole_le {a b : Nat} (h : a ≤ b) : rg a 0 ≤ rg b 0 := rg_small h
theorem whole_add {a b : Nat} (h : a + b < 9007199254740992) : Az (rg a 0) (rg b 0) = rg (a + b) 0 := by
  unfold Az
  rw [(whole_repr (c := a) (by omega)).2, (whole_repr (c := b) (by omega)).2, ← Nat.add_mul]
  refine rg_same (-1074) (Int.le_refl _) (by omega) ?_
  rw [show ((-1074 : Int) - -1074).toNat = 0 from rfl, Nat.pow_zero, Nat.mul_one, show ((0 : Int) - -1074).toNat = E from rfl]
  rfl
/-- The last one, and how it comes about. -/
theorem sm_words {zs : List Int} (h : faultF zs = 0) {w : Nat} (hw : w < 18446744073709551616) (hok : wOk w = true) : ∀ k, k < zs.length →
    ∃ y, smF zs w (k + 1) = smF zs w k ++ [y] ∧ Pi y ∧ rz y ≤ rg ((k + 1) * 1099511627776) 0 ∧
      (k = 0 → y = floatOfInt .f64 zs[k]!) ∧ (0 < k → ∃ a r p b, (smF zs w k)[k - 1]? = some p ∧ D.mul w (floatOfInt .f64 zs[k]!) = some a ∧ D.sub one w = some r ∧ D.mul r p = some b ∧ D.add a b = some y) := by
  obtain ⟨hl, hz⟩ := fault_good h
  obtain ⟨pw, bw⟩ := wOk_pf hw hok
  obtain ⟨r, er, br⟩ := rest_words pw bw
  have hr : fsub one w = r := by unfold fsub; rw [er]; rfl
  intro k
  induction k with
  | zero =>
    intro hk
    obtain ⟨c, d⟩ := hz zs[0] (List.getElem_mem _)
    obtain ⟨n, hn⟩ := Int.eq_ofNat_of_zero_le c
    have hg : zs.getD 0 0 = zs[0] := by rw [List.getD_eq_getElem?_getD, List.getElem?_eq_getElem hk]; rfl
    have hb : zs[0]! = zs[0] := getElem!_pos zs 0 hk
    refine ⟨floatOfInt .f64 zs[0], ?_, ?_, ?_, fun _ => by rw [hb], fun h0 => by omega⟩
    · show smF zs w 0 ++ [if 0 = 0 then floatOfInt .f64 (zs.getD 0 0) else _] = _
      rw [if_pos rfl, hg]
    · rw [hn, floatOfInt_nat]
      exact .inl (rg_le _ _)
    · rw [hn, floatOfInt_nat, rz_le (rg_le _ _)]
      exact whole_le (by omega)
  | succ k ih =>
    intro hk
    obtain ⟨p, hp1, hpi, hp2, _⟩ := ih (by omega)
    obtain ⟨c, d⟩ := hz zs[k + 1] (List.getElem_mem _)
    obtain ⟨n, hn⟩ := Int.eq_ofNat_of_zero_le c
    have hg : zs.getD (k + 1) 0 = zs[k + 1] := by rw [List.getD_eq_getElem?_getD, List.getElem?_eq_getElem hk]; rfl
    have hb : zs[k + 1]! = zs[k + 1] := getElem!_pos zs (k + 1) hk
    have hlast : (smF zs w (k + 1)).getD k 0 = p := by
      rw [hp1, List.getD_eq_getElem?_getD, List.getElem?_append_right (by rw [smF_len]; omega), smF_len, Nat.sub_self]
      rfl
    have hlast' : (smF zs w (k + 1))[k]? = some p := by
      rw [hp1, List.getElem?_append_right (by rw [smF_len]; omega), smF_len, Nat.sub_self]
      rfl
    have hpn : (k + 1) * 1099511627776 < 9007199254740992 := by omega
    have hp3 := (whole_repr hpn).1
    have hx : n ≤ 1099511627776 := by omega
    obtain ⟨f1, f2⟩ := pf_rg (a := n) (by omega)
    obtain ⟨a, ea, va, pa⟩ := mul_pf pw f1
    have ba : rz a ≤ rg 1099511627776 0 := by
      rw [va, f2]
      refine Nat.le_trans (Mz_mono bw (Nat.le_refl _)) ?_
      rw [Mz_one (rg_le _ _)]
      exact whole_le hx
    have fa := pf_of pa ba (whole_repr (by omega)).1
    have fp : Pf p := pf_of hpi hp2 hp3
    have one_lt : one < 9218868437227405312 := by decide
    have fr : Pf r := .inl (by omega)
    obtain ⟨b, eb, vb, pb⟩ := mul_pf fr fp
    have er' : rz r = r := rz_le (by omega)
    have bb : rz b ≤ rg ((k + 1) * 1099511627776) 0 := by
      rw [vb, er']
      refine Nat.le_trans (Mz_mono br (Nat.le_refl _)) ?_
      rw [Mz_one (by omega)]
      exact hp2
    have fb := pf_of pb bb hp3
    obtain ⟨y, ey, vy, py⟩ := add_pf fa fb
    have hsum : Az (rg 1099511627776 0) (rg ((k + 1) * 1099511627776) 0) = rg ((k + 1 + 1) * 1099511627776) 0 := by
      rw [whole_add (by omega)]
      congr 1
      omega
    have by' : rz y ≤ rg ((k + 1 + 1) * 1099511627776) 0 := by
      rw [vy, ← hsum]
      exact Az_mono ba bb
    refine ⟨y, ?_, py, by', fun h0 => by omega, fun _ => ⟨a, r, p, b, hlast', by rw [hb, hn, floatOfInt_nat]; exact ea, er, eb, ey⟩⟩
    · show smF zs w (k + 1) ++ [if k + 1 = 0 then _ else fadd (fmul w (floatOfInt .f64 (zs.getD (k + 1) 0))) (fmul (fsub one w) ((smF zs w (k + 1)).getD (k + 1 - 1) 0))] = _
      rw [if_neg (by omega), hg, hn, floatOfInt_nat, hr, Nat.add_sub_cancel, hlast]
      unfold fmul fadd
      rw [ea, eb]
      simp only [Option.getD_some]
      rw [ey]
      rfl
end Go.Proofs.Ytoopoecopahcbaa.Fl
