/- Stats, in both packages. No condition. -/
import Derived.Test.YtoopoecopahcbaaPlReck1
namespace Go.Proofs.Ytoopoecopahcbaa.Fl
open Go Go.RowKit Ieee Go.Proofs.YtoopoecopahcbaaW.PrintWords Go.Proofs.YtoopoecopahcbaaW.PrintLast Go.Proofs.YtoopoecopahcbaaW.PrintMore
set_option linter.unusedVariables false
set_option linter.unusedSimpArgs false

theorem div_run {a b r : Nat} (h : D.div a b = some r) (t : TypeId) (w : World) : (binOp .quo t (.float .f64 a) (.float .f64 b)).run Try.prog w = .ok (.float .f64 r) w := run_float_arith w .quo t .f64 a b r h
theorem sub_run {a b r : Nat} (h : D.sub a b = some r) (t : TypeId) (w : World) : (binOp .sub t (.float .f64 a) (.float .f64 b)).run Try.prog w = .ok (.float .f64 r) w := run_float_arith w .sub t .f64 a b r h
def statsR (zs : List Int) : Nat × Nat × Int := if faultF zs = 0 then (if zs = [] then (0, 0, 0) else (meanF zs, devF zs, 0)) else (0, 0, faultF zs)
theorem statsR_ok (zs : List Int) : Ok (statsR zs).1 ∧ Ok (statsR zs).2.1 := by
  have z : Ok 0 := Nn_ok (Nat.zero_le _)
  unfold statsR
  split
  · rename_i h
    split
    · exact ⟨z, z⟩
    · rename_i h1
      obtain ⟨_, _, _, h2⟩ := dev_words h h1
      exact ⟨Nn_ok (mean_ok h h1).2, h2⟩
  · exact ⟨z, z⟩
def statsV (zs : List Int) : Value := .tuple #[.float .f64 (statsR zs).1, .float .f64 (statsR zs).2.1, .int .i64 (statsR zs).2.2]
theorem statsV_bad {zs : List Int} {f : Int} (h : faultF zs = f) (h0 : f ≠ 0) : statsV zs = .tuple #[.float .f64 0, .float .f64 0, .int .i64 f] := by
  unfold statsV statsR
  rw [if_neg (by rw [h]; exact h0), h]
theorem statsV_nil {zs : List Int} (h : zs = []) : statsV zs = .tuple #[.float .f64 0, .float .f64 0, .int .i64 0] := by
  subst h
  rfl
theorem statsV_good {zs : List Int} (h : faultF zs = 0) (h1 : zs ≠ []) : statsV zs = .tuple #[.float .f64 (meanF zs), .float .f64 (devF zs), .int .i64 0] := by
  unfold statsV statsR
  rw [if_pos h, if_neg h1]

set_option maxRecDepth 100000 in
set_option maxHeartbeats 4000000 in
theorem stats_calls (A : Option Addr) (c : Nat) (zs : List Int) (w : World) (ha : Kd.C (Kd.int .i64) w A zs.length zs) (hc : zs.length ≤ c) (hl : zs.length < 4611686018427387904) :
    Calls Try.prog 27 #[.slice A zs.length c] w fun e w' => e = .returned (statsV zs) ∧ w = w' := by
  have HA := Aside0.mk ha
  have HF := Aside0.mk (fault_calls A c zs w ha hc hl)
  clear ha
  by_cases hf : faultF zs = 0
  case neg =>
    obtain ⟨f, hff⟩ : ∃ f, faultF zs = f := ⟨_, rfl⟩
    rw [hff] at HF hf
    have HV := Aside0.mk (statsV_bad hff hf)
    have d1 : (f != 0) = true := bne_iff_ne.2 hf
    clear hff hf
    go_enter Try.func27, Try.ntmps27
    go_wp2_with (first | (go_at_call 54; refine (HF.out).mono ?_; rintro e w1 ⟨rfl, rfl⟩))
    go_ret3
    exact ⟨by rw [HV.out]; rfl, rfl⟩
  case pos =>
    rw [hf] at HF
    by_cases hn : zs = []
    · have HV := Aside0.mk (statsV_nil hn)
      have d2 : ((zs.length : Int) == 0) = true := by rw [hn]; rfl
      clear hf hn
      go_enter Try.func27, Try.ntmps27
      go_wp2_with (first | (go_at_call 54; refine (HF.out).mono ?_; rintro e w1 ⟨rfl, rfl⟩))
      go_ret3
      exact ⟨by rw [HV.out]; rfl, rfl⟩
    · have HV := Aside0.mk (statsV_good hf hn)
      have hn0 : 0 < zs.length := List.length_pos_iff.2 hn
      have d2 : ((zs.length : Int) == 0) = false := beq_eq_false_iff_ne.2 (by omega)
      obtain ⟨hlen, hz⟩ := fault_good hf
      have HZ := Aside0.mk hz
      have HSB := Aside0.mk (sumI_bound hz)
      obtain ⟨em, nm⟩ := mean_ok hf hn
      obtain ⟨q, e1, e2, _⟩ := dev_words hf hn
      have HSW := Aside0.mk (show ∀ k, (hk : k < zs.length) → _ from fun k hk => sq_words hf nm hk)
      have rm := div_run em
      have rq := div_run e1
      have HQ := Aside0.mk (sqrt_calls q (devF zs) e2)
      generalize hME : meanF zs = me at *
      clear hf hn em nm e1 e2 hz hME
      go_enter Try.func27, Try.ntmps27
      go_wp2_with (first | (go_at_call 54; refine (HF.out).mono ?_; rintro e w1 ⟨rfl, rfl⟩))
      go_loop [6, 8, 26] (fun v6 v8 v26 => ∃ k : Nat, k ≤ zs.length ∧ v26 = .int .i64 k ∧ v6 = .int .i64 (sumI zs k)) (fun v6 v8 v26 => zs.length - (intOf v26).toNat)
      case atStart => exact ⟨0, Nat.zero_le _, rfl, rfl⟩
      case round =>
        obtain ⟨k, hk, rfl, rfl⟩ := hrel
        obtain ⟨s1, s2⟩ := HSB.out k hk
        by_cases hlt : k < zs.length
        · obtain ⟨ad, eA, hcA⟩ := at_num HA.out k hlt
          obtain ⟨z1, z2⟩ := HZ.out zs[k] (List.getElem_mem hlt)
          have HN := Aside0.mk (sumI_succ hlt)
          generalize zs[k] = z at *
          generalize sumI zs k = sm at *
          subst eA
          have i0 : (0 : Int) ≤ (k : Int) := by omega
          have i1 : (k : Int) < (zs.length : Int) := by omega
          have i2 : sm ≤ 4503599627370496 := by omega
          clear HSW rm rq
          go_wp2_with fail
          go_round
          case rel => exact ⟨k + 1, by omega, by go_num, by rw [HN.out]⟩
          case measure => simp [intOf]; omega
        · obtain rfl : k = zs.length := by omega
          go_wp2_with fail
          go_loop [10, 12, 13, 43] (fun v10 v12 v13 v43 => ∃ k : Nat, k ≤ zs.length ∧ v43 = .int .i64 k ∧ v10 = .float .f64 (sqF zs me k)) (fun v10 v12 v13 v43 => zs.length - (intOf v43).toNat)
          case atStart => exact ⟨0, Nat.zero_le _, rfl, rfl⟩
          case round =>
            obtain ⟨k, hk, rfl, rfl⟩ := hrel
            by_cases hlt : k < zs.length
            · obtain ⟨ad, eA, hcA⟩ := at_num HA.out k hlt
              obtain ⟨dd, qq, g1, g2, g3⟩ := HSW.out k hlt
              have t1 := sub_run g1
              have t2 := mul_run g2
              have t3 := add_run g3
              generalize zs[k] = z at *
              subst eA
              have i0 : (0 : Int) ≤ (k : Int) := by omega
              have i1 : (k : Int) < (zs.length : Int) := by omega
              generalize hS1 : sqF zs me (k + 1) = S1 at *
              generalize sqF zs me k = S0 at *
              have HS1 := Aside0.mk hS1
              clear hS1 g1 g2 g3 rm rq
              go_wp2_with fail
              go_round
              case rel => exact ⟨k + 1, by omega, by go_num, by rw [HS1.out]⟩
              case measure => simp [intOf]; omega
            · obtain rfl : k = zs.length := by omega
              go_wp2_with (first | (go_at_call 55; refine (HQ.out _).mono ?_; rintro e w1 ⟨rfl, rfl⟩))
              go_ret3
              exact ⟨by rw [HV.out]; rfl, rfl⟩
set_option maxRecDepth 100000 in
set_option maxHeartbeats 4000000 in
theorem refstats_calls (A : Option Addr) (c : Nat) (zs : List Int) (w : World) (ha : Kd.C (Kd.int .i64) w A zs.length zs) (hc : zs.length ≤ c) (hl : zs.length < 4611686018427387904) :
    Calls Try.prog 28 #[.slice A zs.length c] w fun e w' => e = .returned (statsV zs) ∧ w = w' := by
  have HA := Aside0.mk ha
  have HF := Aside0.mk (history_calls A c zs w ha hc hl)
  clear ha
  by_cases hf : faultF zs = 0
  case neg =>
    obtain ⟨f, hff⟩ : ∃ f, faultF zs = f := ⟨_, rfl⟩
    rw [hff] at HF hf
    have HV := Aside0.mk (statsV_bad hff hf)
    have d1 : (f != 0) = true := bne_iff_ne.2 hf
    clear hff hf
    go_enter Try.func28, Try.ntmps28
    go_wp2_with (first | (go_at_call 56; refine (HF.out).mono ?_; rintro e w1 ⟨rfl, rfl⟩))
    go_ret3
    exact ⟨by rw [HV.out]; rfl, rfl⟩
  case pos =>
    rw [hf] at HF
    by_cases hn : zs = []
    · have HV := Aside0.mk (statsV_nil hn)
      have d2 : ((zs.length : Int) == 0) = true := by rw [hn]; rfl
      clear hf hn
      go_enter Try.func28, Try.ntmps28
      go_wp2_with (first | (go_at_call 56; refine (HF.out).mono ?_; rintro e w1 ⟨rfl, rfl⟩))
      go_ret3
      exact ⟨by rw [HV.out]; rfl, rfl⟩
    · have HV := Aside0.mk (statsV_good hf hn)
      have hn0 : 0 < zs.length := List.length_pos_iff.2 hn
      have d2 : ((zs.length : Int) == 0) = false := beq_eq_false_iff_ne.2 (by omega)
      obtain ⟨hlen, hz⟩ := fault_good hf
      have HZ := Aside0.mk hz
      have HSB := Aside0.mk (sumI_bound hz)
      obtain ⟨em, nm⟩ := mean_ok hf hn
      obtain ⟨q, e1, e2, _⟩ := dev_words hf hn
      have HSW := Aside0.mk (show ∀ k, (hk : k < zs.length) → _ from fun k hk => sq_words hf nm hk)
      have rm := div_run em
      have rq := div_run e1
      have HQ := Aside0.mk (sqrt_calls q (devF zs) e2)
      generalize hME : meanF zs = me at *
      clear hf hn em nm e1 e2 hz hME
      go_enter Try.func28, Try.ntmps28
      go_wp2_with (first | (go_at_call 56; refine (HF.out).mono ?_; rintro e w1 ⟨rfl, rfl⟩))
      go_loop [6, 7] (fun v6 v7 => ∃ k : Nat, k ≤ zs.length ∧ v7 = .int .i64 k ∧ v6 = .int .i64 (sumI zs k)) (fun v6 v7 => zs.length - (intOf v7).toNat)
      case atStart => exact ⟨0, Nat.zero_le _, rfl, rfl⟩
      case round =>
        obtain ⟨k, hk, rfl, rfl⟩ := hrel
        obtain ⟨s1, s2⟩ := HSB.out k hk
        by_cases hlt : k < zs.length
        · obtain ⟨ad, eA, hcA⟩ := at_num HA.out k hlt
          obtain ⟨z1, z2⟩ := HZ.out zs[k] (List.getElem_mem hlt)
          have HN := Aside0.mk (sumI_succ hlt)
          generalize zs[k] = z at *
          generalize sumI zs k = sm at *
          subst eA
          have i0 : (0 : Int) ≤ (k : Int) := by omega
          have i1 : (k : Int) < (zs.length : Int) := by omega
          have i2 : sm ≤ 4503599627370496 := by omega
          clear HSW rm rq
          go_wp2_with fail
          go_round
          case rel => exact ⟨k + 1, by omega, by go_num, by rw [HN.out]⟩
          case measure => simp [intOf]; omega
        · obtain rfl : k = zs.length := by omega
          go_wp2_with fail
          go_loop [10, 11, 12, 13] (fun v10 v11 v12 v13 => ∃ k : Nat, k ≤ zs.length ∧ v11 = .int .i64 k ∧ v10 = .float .f64 (sqF zs me k)) (fun v10 v11 v12 v13 => zs.length - (intOf v11).toNat)
          case atStart => exact ⟨0, Nat.zero_le _, rfl, rfl⟩
          case round =>
            obtain ⟨k, hk, rfl, rfl⟩ := hrel
            by_cases hlt : k < zs.length
            · obtain ⟨ad, eA, hcA⟩ := at_num HA.out k hlt
              obtain ⟨dd, qq, g1, g2, g3⟩ := HSW.out k hlt
              have t1 := sub_run g1
              have t2 := mul_run g2
              have t3 := add_run g3
              generalize zs[k] = z at *
              subst eA
              have i0 : (0 : Int) ≤ (k : Int) := by omega
              have i1 : (k : Int) < (zs.length : Int) := by omega
              generalize hS1 : sqF zs me (k + 1) = S1 at *
              generalize sqF zs me k = S0 at *
              have HS1 := Aside0.mk hS1
              clear hS1 g1 g2 g3 rm rq
              go_wp2_with fail
              go_round
              case rel => exact ⟨k + 1, by omega, by go_num, by rw [HS1.out]⟩
              case measure => simp [intOf]; omega
            · obtain rfl : k = zs.length := by omega
              go_wp2_with (first | (go_at_call 55; refine (HQ.out _).mono ?_; rintro e w1 ⟨rfl, rfl⟩))
              go_ret3
              exact ⟨by rw [HV.out]; rfl, rfl⟩
end Go.Proofs.Ytoopoecopahcbaa.Fl
