/- plan.Point and larderref17.Point: what they tell. No condition. -/
import Derived.Test.YtoopoecopahcbaaPlPoint
namespace Go.Proofs.Ytoopoecopahcbaa.Fl
open Go Go.RowKit Ieee
set_option linter.unusedVariables false
set_option linter.unusedSimpArgs false

def pointR (m d z : Nat) (l : Int) : Int × Int :=
  if bt m c9 = true ∧ bt d c9 = true ∧ bt z c10 = true ∧ 0 ≤ l ∧ l ≤ 1000 then ((ceiV (zF (rz m) (rz d) (rz z) l.toNat) : Nat), 0) else (0, 172)
def pointV (m d z : Nat) (l : Int) : Value := .tuple #[.int .i64 (pointR m d z l).1, .int .i64 (pointR m d z l).2]
theorem pointV_bad {m d z : Nat} {l : Int} (h : ¬(bt m c9 = true ∧ bt d c9 = true ∧ bt z c10 = true ∧ 0 ≤ l ∧ l ≤ 1000)) : pointV m d z l = .tuple #[.int .i64 0, .int .i64 172] := by
  unfold pointV pointR
  rw [if_neg h]
theorem pointV_good {m d z : Nat} {l : Int} (h : bt m c9 = true ∧ bt d c9 = true ∧ bt z c10 = true ∧ 0 ≤ l ∧ l ≤ 1000) : pointV m d z l = .tuple #[.int .i64 ((ceiV (zF (rz m) (rz d) (rz z) l.toNat) : Nat) : Int), .int .i64 0] := by
  unfold pointV pointR
  rw [if_pos h]
theorem bt_pf {x c : Nat} (hx : x < 18446744073709551616) (hc : c < 9218868437227405312) (h : bt x c = true) : Pf x ∧ rz x ≤ c := by
  unfold bt at h
  exact pf_of_bt hx hc (and_l h) (and_r h)
theorem floatOfInt_nat (l : Nat) : floatOfInt .f64 (l : Int) = rg l 0 := by
  unfold floatOfInt FloatKind.nearest FloatKind.encode
  show D.write (.number (decide ((l : Int) < 0)) (l : Int).natAbs 0) = _
  rw [decide_eq_false (by omega), Int.natAbs_natCast]
  rfl
theorem mul_run {a b r : Nat} (h : D.mul a b = some r) (t : TypeId) (w : World) : (binOp .mul t (.float .f64 a) (.float .f64 b)).run Try.prog w = .ok (.float .f64 r) w := run_float_arith w .mul t .f64 a b r h
theorem add_run {a b r : Nat} (h : D.add a b = some r) (t : TypeId) (w : World) : (binOp .add t (.float .f64 a) (.float .f64 b)).run Try.prog w = .ok (.float .f64 r) w := run_float_arith w .add t .f64 a b r h
theorem toint_run {b : Nat} {n : Int} (h : floatToIntVal .f64 b .i64 = some n) (w : World) : (convert 35 3 (.float .f64 b)).run Try.prog w = .ok (.int .i64 n) w :=
  run_convert_float_int w 35 3 .f64 .i64 b n (by rw [Try.underlying35]; rfl) Try.underlying3 h

set_option maxRecDepth 100000 in
set_option maxHeartbeats 4000000 in
theorem point_calls (m d z : Nat) (l : Int) (hm : m < 18446744073709551616) (hd : d < 18446744073709551616) (hz : z < 18446744073709551616) (w : World) :
    Calls Try.prog 35 #[.agg #[.float .f64 m, .float .f64 d, .float .f64 z, .int .i64 l]] w fun e w' => e = .returned (pointV m d z l) ∧ Below w.heap.size w w' := by
  by_cases h1 : bt m c9 = true
  case neg =>
    have HV := Lib.hid (pointV_bad (m := m) (d := d) (z := z) (l := l) (fun g => h1 g.1))
    have hA := Lib.hid (fun w => between_calls m c9 w)
    rw [show bt m c9 = false from by simpa using h1] at hA
    clear h1 hm hd hz
    go_enter Try.func35, Try.ntmps35
    go_wp2_with fail
    refine (hA.out _).mono ?_
    rintro e w1 ⟨rfl, rfl⟩
    go_wp2_with fail
    go_ret2
    exact ⟨by rw [HV.out]; rfl, (Below.refl _ _).alloc (Nat.le_refl _) _⟩
  by_cases h2 : bt d c9 = true
  case neg =>
    have HV := Lib.hid (pointV_bad (m := m) (d := d) (z := z) (l := l) (fun g => h2 g.2.1))
    have hA := Lib.hid (fun w => between_calls m c9 w)
    rw [h1] at hA
    have hB := Lib.hid (fun w => between_calls d c9 w)
    rw [show bt d c9 = false from by simpa using h2] at hB
    clear h1 h2 hm hd hz
    go_enter Try.func35, Try.ntmps35
    go_wp2_with fail
    refine (hA.out _).mono ?_
    rintro e w1 ⟨rfl, rfl⟩
    go_wp2_with fail
    refine (hB.out _).mono ?_
    rintro e w1 ⟨rfl, rfl⟩
    go_wp2_with fail
    go_ret2
    exact ⟨by rw [HV.out]; rfl, (Below.refl _ _).alloc (Nat.le_refl _) _⟩
  by_cases h3 : bt z c10 = true
  case neg =>
    have HV := Lib.hid (pointV_bad (m := m) (d := d) (z := z) (l := l) (fun g => h3 g.2.2.1))
    have hA := Lib.hid (fun w => between_calls m c9 w)
    rw [h1] at hA
    have hB := Lib.hid (fun w => between_calls d c9 w)
    rw [h2] at hB
    have hC := Lib.hid (fun w => between_calls z c10 w)
    rw [show bt z c10 = false from by simpa using h3] at hC
    clear h1 h2 h3 hm hd hz
    go_enter Try.func35, Try.ntmps35
    go_wp2_with fail
    refine (hA.out _).mono ?_
    rintro e w1 ⟨rfl, rfl⟩
    go_wp2_with fail
    refine (hB.out _).mono ?_
    rintro e w1 ⟨rfl, rfl⟩
    go_wp2_with fail
    refine (hC.out _).mono ?_
    rintro e w1 ⟨rfl, rfl⟩
    go_wp2_with fail
    go_ret2
    exact ⟨by rw [HV.out]; rfl, (Below.refl _ _).alloc (Nat.le_refl _) _⟩
  by_cases h4 : 0 ≤ l
  case neg =>
    have HV := Lib.hid (pointV_bad (m := m) (d := d) (z := z) (l := l) (fun g => h4 g.2.2.2.1))
    have hA := Lib.hid (fun w => between_calls m c9 w)
    rw [h1] at hA
    have hB := Lib.hid (fun w => between_calls d c9 w)
    rw [h2] at hB
    have hC := Lib.hid (fun w => between_calls z c10 w)
    rw [h3] at hC
    have hW := Lib.hid (fun w => pwithin_calls l 0 1000 w)
    have l1 : decide (0 ≤ l) = false := decide_eq_false h4
    rw [l1] at hW
    clear h1 h2 h3 h4 hm hd hz l1
    go_enter Try.func35, Try.ntmps35
    go_wp2_with fail
    refine (hA.out _).mono ?_
    rintro e w1 ⟨rfl, rfl⟩
    go_wp2_with fail
    refine (hB.out _).mono ?_
    rintro e w1 ⟨rfl, rfl⟩
    go_wp2_with fail
    refine (hC.out _).mono ?_
    rintro e w1 ⟨rfl, rfl⟩
    go_wp2_with fail
    refine (hW.out _).mono ?_
    rintro e w1 ⟨rfl, rfl⟩
    go_wp2_with fail
    go_ret2
    exact ⟨by rw [HV.out]; rfl, (Below.refl _ _).alloc (Nat.le_refl _) _⟩
  by_cases h5 : l ≤ 1000
  case neg =>
    have HV := Lib.hid (pointV_bad (m := m) (d := d) (z := z) (l := l) (fun g => h5 g.2.2.2.2))
    have hA := Lib.hid (fun w => between_calls m c9 w)
    rw [h1] at hA
    have hB := Lib.hid (fun w => between_calls d c9 w)
    rw [h2] at hB
    have hC := Lib.hid (fun w => between_calls z c10 w)
    rw [h3] at hC
    have hW := Lib.hid (fun w => pwithin_calls l 0 1000 w)
    have l1 : decide (0 ≤ l) = true := decide_eq_true h4
    have l2 : decide (l ≤ 1000) = false := decide_eq_false h5
    rw [l1, l2] at hW
    clear h1 h2 h3 h4 h5 hm hd hz l1 l2
    go_enter Try.func35, Try.ntmps35
    go_wp2_with fail
    refine (hA.out _).mono ?_
    rintro e w1 ⟨rfl, rfl⟩
    go_wp2_with fail
    refine (hB.out _).mono ?_
    rintro e w1 ⟨rfl, rfl⟩
    go_wp2_with fail
    refine (hC.out _).mono ?_
    rintro e w1 ⟨rfl, rfl⟩
    go_wp2_with fail
    refine (hW.out _).mono ?_
    rintro e w1 ⟨rfl, rfl⟩
    go_wp2_with fail
    go_ret2
    exact ⟨by rw [HV.out]; rfl, (Below.refl _ _).alloc (Nat.le_refl _) _⟩
  have HV := Lib.hid (pointV_good ⟨h1, h2, h3, h4, h5⟩)
  obtain ⟨pm, bm⟩ := bt_pf hm (by decide) h1
  obtain ⟨pd, bd⟩ := bt_pf hd (by decide) h2
  obtain ⟨pz, bz⟩ := bt_pf hz (by decide) h3
  obtain ⟨n, rfl⟩ := Int.eq_ofNat_of_zero_le h4
  rw [Int.toNat_natCast] at HV
  obtain ⟨q, m1, s1, s2, zz, hq, e1, e2, e3, e4, pzz, ezz, bzz⟩ := point_words pm bm pd bd pz bz (show n ≤ 1000 by omega)
  obtain ⟨hn, hc⟩ := ceil_words pzz bzz
  rw [ezz] at hc
  have r1 := mul_run e1
  have r2 := mul_run e2
  have r3 := mul_run e3
  have r4 := add_run e4
  have r5 := toint_run hc
  have r6 := floatOfInt_nat n
  have HQ := Lib.hid (sqrt_calls (rg n 0) q hq)
  have HC := Lib.hid (ceil_calls zz hn)
  have l1 : decide ((0 : Int) ≤ (n : Int)) = true := decide_eq_true h4
  have l2 : decide ((n : Int) ≤ 1000) = true := decide_eq_true h5
  have hA := Lib.hid (fun w => between_calls m c9 w)
  have hB := Lib.hid (fun w => between_calls d c9 w)
  have hC := Lib.hid (fun w => between_calls z c10 w)
  rw [h1] at hA
  rw [h2] at hB
  rw [h3] at hC
  have hW := Lib.hid (fun w => pwithin_calls (n : Int) 0 1000 w)
  rw [l1, l2] at hW
  generalize ceiV (zF (rz m) (rz d) (rz z) n) = cc at *
  generalize D.write ((D.read zz).integral .up) = cw at *
  generalize rg n 0 = L at *
  clear h1 h2 h3 h4 h5 pm bm pd bd pz bz hm hd hz hq e1 e2 e3 e4 pzz ezz bzz hn hc l1 l2
  go_enter Try.func35, Try.ntmps35
  go_wp2_with fail
  refine (hA.out _).mono ?_
  rintro e w1 ⟨rfl, rfl⟩
  go_wp2_with fail
  refine (hB.out _).mono ?_
  rintro e w1 ⟨rfl, rfl⟩
  go_wp2_with fail
  refine (hC.out _).mono ?_
  rintro e w1 ⟨rfl, rfl⟩
  go_wp2_with fail
  refine (hW.out _).mono ?_
  rintro e w1 ⟨rfl, rfl⟩
  go_wp2_with fail
  go_quiet ((go_at_call 55; exact Calls.quiet_of_same (HQ.out _)))
  go_wp2_with (first | (go_at_call 59; refine (HC.out _).mono ?_; rintro e w1 ⟨rfl, rfl⟩))
  go_ret2
  exact ⟨by rw [HV.out]; rfl, pw_drewN ((Below.refl _ _).alloc (Nat.le_refl _) _)⟩

set_option maxRecDepth 100000 in
set_option maxHeartbeats 4000000 in
theorem refpoint_calls (m d z : Nat) (l : Int) (hm : m < 18446744073709551616) (hd : d < 18446744073709551616) (hz : z < 18446744073709551616) (w : World) :
    Calls Try.prog 36 #[.agg #[.float .f64 m, .float .f64 d, .float .f64 z, .int .i64 l]] w fun e w' => e = .returned (pointV m d z l) ∧ Below w.heap.size w w' := by
  have q1 : ∀ x, (FloatKind.f64.format.order x 0 == some .gt || FloatKind.f64.format.order x 0 == some .eq) = ge0 x := fun _ => rfl
  have q2 : ∀ x c, (FloatKind.f64.format.order x c == some .lt || FloatKind.f64.format.order x c == some .eq) = leC x c := fun _ _ => rfl
  obtain ⟨am, ham⟩ : ∃ b, ge0 m = b := ⟨_, rfl⟩
  obtain ⟨bm', hbm⟩ : ∃ b, leC m c9 = b := ⟨_, rfl⟩
  obtain ⟨ad, had⟩ : ∃ b, ge0 d = b := ⟨_, rfl⟩
  obtain ⟨bd', hbd⟩ : ∃ b, leC d c9 = b := ⟨_, rfl⟩
  obtain ⟨az, haz⟩ : ∃ b, ge0 z = b := ⟨_, rfl⟩
  obtain ⟨bz', hbz⟩ : ∃ b, leC z c10 = b := ⟨_, rfl⟩
  have um : (am && bm') = bt m c9 := by unfold bt; rw [ham, hbm]
  have ud : (ad && bd') = bt d c9 := by unfold bt; rw [had, hbd]
  have uz : (az && bz') = bt z c10 := by unfold bt; rw [haz, hbz]
  have um := Lib.hid um
  have ud := Lib.hid ud
  have uz := Lib.hid uz
  by_cases hgood : bt m c9 = true ∧ bt d c9 = true ∧ bt z c10 = true ∧ 0 ≤ l ∧ l ≤ 1000
  · have HV := Lib.hid (pointV_good hgood)
    obtain ⟨h1, h2, h3, h4, h5⟩ := hgood
    rw [h1] at um
    rw [h2] at ud
    rw [h3] at uz
    obtain rfl : am = true := and_l um.out
    obtain rfl : bm' = true := and_r um.out
    obtain rfl : ad = true := and_l ud.out
    obtain rfl : bd' = true := and_r ud.out
    obtain rfl : az = true := and_l uz.out
    obtain rfl : bz' = true := and_r uz.out
    obtain ⟨pm, bm⟩ := bt_pf hm (by decide) h1
    obtain ⟨pd, bd⟩ := bt_pf hd (by decide) h2
    obtain ⟨pz, bz⟩ := bt_pf hz (by decide) h3
    obtain ⟨n, rfl⟩ := Int.eq_ofNat_of_zero_le h4
    rw [Int.toNat_natCast] at HV
    obtain ⟨q, m1, s1, s2, zz, hq, e1, e2, e3, e4, pzz, ezz, bzz⟩ := point_words pm bm pd bd pz bz (show n ≤ 1000 by omega)
    obtain ⟨hc, hlt⟩ := floor_words pzz bzz
    have hbig := flr_le_top bzz
    have HCV := Lib.hid (show ceiV (zF (rz m) (rz d) (rz z) n) = Vr (rz zz) / U + (if Vr (rz zz) % U = 0 then 0 else 1) by rw [← ezz]; rfl)
    have r1 := mul_run e1
    have r2 := mul_run e2
    have r3 := mul_run e3
    have r4 := add_run e4
    have r5 := toint_run hc
    have r6 := floatOfInt_nat n
    have r7 := floatOfInt_nat (Vr (rz zz) / U)
    rw [← order_fmt] at hlt
    have HQ := Lib.hid (sqrt_calls (rg n 0) q hq)
    have l1 : decide ((n : Int) < 0) = false := decide_eq_false (by omega)
    have l2 : decide ((n : Int) > 1000) = false := decide_eq_false (by omega)
    generalize ceiV (zF (rz m) (rz d) (rz z) n) = cc at *
    generalize rg (Vr (rz zz) / U) 0 = kw at *
    generalize Vr (rz zz) / U = k at *
    generalize hrr : decide (Vr (rz zz) % U = 0) = rr at *
    have HRR := Lib.hid hrr
    generalize rg n 0 = L at *
    clear um ud uz h1 h2 h3 h4 h5 pm bm pd bd pz bz hm hd hz hq e1 e2 e3 e4 pzz ezz bzz hc hrr
    cases rr
    · have l3 : IntKind.i64.wrap ((k : Int) + 1) = (k : Int) + 1 := Go.IntWalk.i64_in _ (by omega)
      go_enter Try.func36, Try.ntmps36
      go_wp2_with (first | (go_at_call 55; refine (HQ.out _).mono ?_; rintro e w1 ⟨rfl, rfl⟩))
      go_ret2
      refine ⟨?_, (Below.refl _ _).alloc (Nat.le_refl _) _⟩
      rw [HV.out, HCV.out, if_neg (of_decide_eq_false HRR.out)]
      rfl
    · go_enter Try.func36, Try.ntmps36
      go_wp2_with (first | (go_at_call 55; refine (HQ.out _).mono ?_; rintro e w1 ⟨rfl, rfl⟩))
      go_ret2
      refine ⟨?_, (Below.refl _ _).alloc (Nat.le_refl _) _⟩
      rw [HV.out, HCV.out, if_pos (of_decide_eq_true HRR.out)]
      rfl
  · have HV := Lib.hid (pointV_bad hgood)
    have HB : (am && bm' && (ad && bd') && (az && bz') && (decide (0 ≤ l) && decide (l ≤ 1000))) = false := by
      rw [um.out, ud.out, uz.out]
      cases hx : (bt m c9 && bt d c9 && bt z c10 && (decide (0 ≤ l) && decide (l ≤ 1000))) with
      | false => rfl
      | true =>
        simp only [Bool.and_eq_true, decide_eq_true_eq] at hx
        exact absurd ⟨hx.1.1.1, hx.1.1.2, hx.1.2, hx.2.1, hx.2.2⟩ hgood
    have hl : (decide (l < 0) = true ∧ decide (0 ≤ l) = false) ∨ (decide (l < 0) = false ∧ decide (l > 1000) = true ∧ decide (l ≤ 1000) = false) ∨ (decide (l < 0) = false ∧ decide (l > 1000) = false ∧ decide (0 ≤ l) = true ∧ decide (l ≤ 1000) = true) := by
      rcases Int.lt_or_le l 0 with a | a
      · exact .inl ⟨decide_eq_true a, decide_eq_false (by omega)⟩
      · rcases Int.lt_or_le 1000 l with b | b
        · exact .inr (.inl ⟨decide_eq_false (by omega), decide_eq_true b, decide_eq_false (by omega)⟩)
        · exact .inr (.inr ⟨decide_eq_false (by omega), decide_eq_false (by omega), decide_eq_true a, decide_eq_true b⟩)
    clear um ud uz hgood hm hd hz
    cases am <;> cases bm' <;> cases ad <;> cases bd' <;> cases az <;> cases bz' <;> rcases hl with ⟨l1, l2⟩ | ⟨l1, l2, l3⟩ | ⟨l1, l2, l3, l4⟩
    all_goals (first | (exfalso; rw [l3, l4] at HB; exact absurd HB (by decide)) | skip)
    all_goals clear HB
    all_goals
      go_enter Try.func36, Try.ntmps36
      go_wp2_with fail
      go_ret2
      exact ⟨by rw [HV.out]; rfl, (Below.refl _ _).alloc (Nat.le_refl _) _⟩
end Go.Proofs.Ytoopoecopahcbaa.Fl
