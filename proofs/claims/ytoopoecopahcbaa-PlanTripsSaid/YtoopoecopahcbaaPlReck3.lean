/- Smooth, in both packages. No condition. -/
import Derived.Test.YtoopoecopahcbaaPlReck2
namespace Go.Proofs.Ytoopoecopahcbaa.Fl
open Go Go.RowKit Ieee Go.Proofs.YtoopoecopahcbaaW.PrintWords Go.Proofs.YtoopoecopahcbaaW.PrintLast Go.Proofs.YtoopoecopahcbaaW.PrintMore
set_option linter.unusedVariables false
set_option linter.unusedSimpArgs false

theorem infoF : (Try.prog.info? 35).map (fun i => (i.zero, i.size, i.bytes)) = some (some (.float .f64 0), 1, 8) := by kernel_rfl
abbrev kF : Kd Nat := Kd.scalar (fun b => Value.float .f64 b) (fun _ => rfl)
theorem at_fl {w : World} {A : Option Addr} {xs : List Nat} (h : Kd.C kF w A xs.length xs) (i : Nat) (p : Nat) (hi : xs[i]? = some p) : ∃ ad, A = some ad ∧ w.cell? (ad.add i) = some (.float .f64 p) := by
  have hl := (List.getElem?_eq_some_iff.1 hi).1
  obtain ⟨ad, c, e, _, hK, hc⟩ := Kd.C_get h (0 : Nat) (i : Int) (by omega) (by omega)
  rw [Int.toNat_natCast] at *
  rw [show xs.getD i 0 = p by rw [List.getD_eq_getElem?_getD, hi]; rfl] at hK
  have hK' : c = [.float .f64 p] := hK
  subst hK'
  refine ⟨ad, e, ?_⟩
  have := hc 0 _ rfl
  rw [show i * kF.sz + 0 = i from by show i * 1 + 0 = i; omega] at this
  exact this
def smoothR (zs : List Int) (w : Nat) : List Nat × Int := if faultF zs = 0 then (if wOk w = true then (smF zs w zs.length, 0) else ([], 172)) else ([], faultF zs)
theorem smoothR_bad {zs : List Int} {w : Nat} {f : Int} (h : faultF zs = f) (h0 : f ≠ 0) : smoothR zs w = ([], f) := by
  unfold smoothR
  rw [if_neg (by rw [h]; exact h0), h]
theorem smoothR_w {zs : List Int} {w : Nat} (h : faultF zs = 0) (hw : wOk w = false) : smoothR zs w = ([], 172) := by
  unfold smoothR
  rw [if_pos h, if_neg (by rw [hw]; decide)]
theorem smoothR_good {zs : List Int} {w : Nat} (h : faultF zs = 0) (hw : wOk w = true) : smoothR zs w = (smF zs w zs.length, 0) := by
  unfold smoothR
  rw [if_pos h, if_pos hw]
/-- What Smooth answers. -/
def SmPost (zs : List Int) (wt : Nat) (w : World) (e : Ending) (w' : World) : Prop :=
  ∃ v, e = .returned (.tuple #[v, .int .i64 (smoothR zs wt).2]) ∧ kF.R 35 w' w.heap.size (fun _ => True) v (smoothR zs wt).1 ∧ Below w.heap.size w w'

set_option maxRecDepth 100000 in
set_option maxHeartbeats 8000000 in
theorem smooth_calls (A : Option Addr) (c : Nat) (zs : List Int) (wt : Nat) (hw : wt < 18446744073709551616) (w : World) (ha : Kd.C (Kd.int .i64) w A zs.length zs) (hc : zs.length ≤ c) (hl : zs.length < 4611686018427387904) :
    Calls Try.prog 29 #[.slice A zs.length c, .float .f64 wt] w (SmPost zs wt w) := by
  have HA := Aside0.mk ha
  have HF := Aside0.mk (fault_calls A c zs w ha hc hl)
  clear ha
  have q1 : (FloatKind.f64.format.order wt 0 == some .gt) = (D.order wt 0 == some .gt) := rfl
  have q2 : (FloatKind.f64.format.order wt 4607182418800017408 == some .lt || FloatKind.f64.format.order wt 4607182418800017408 == some .eq) = leC wt one := rfl
  obtain ⟨wa, hwa⟩ : ∃ b, (D.order wt 0 == some .gt) = b := ⟨_, rfl⟩
  obtain ⟨wb, hwb⟩ : ∃ b, leC wt one = b := ⟨_, rfl⟩
  have hwok : wOk wt = (wa && wb) := by unfold wOk; rw [hwa, hwb]
  rw [hwa] at q1
  rw [hwb] at q2
  clear hwa hwb
  by_cases hf : faultF zs = 0
  case neg =>
    obtain ⟨f, hff⟩ : ∃ f, faultF zs = f := ⟨_, rfl⟩
    rw [hff] at HF hf
    have HV := Aside0.mk (smoothR_bad (w := wt) hff hf)
    have d1 : (f != 0) = true := bne_iff_ne.2 hf
    clear hff hf q1 q2 hwok
    go_enter Try.func29, Try.ntmps29
    go_wp2_with (first | (go_at_call 54; refine (HF.out).mono ?_; rintro e w1 ⟨rfl, rfl⟩))
    go_ret2
    exact ⟨_, by rw [HV.out]; rfl, by rw [HV.out]; exact Kd.R_nil _ _ _ _ _, Below.refl _ _⟩
  case pos =>
    rw [hf] at HF
    by_cases hwk : (wa && wb) = true
    case neg =>
      have hwk' : (wa && wb) = false := by simpa using hwk
      have HV := Aside0.mk (smoothR_w hf (hwok.trans hwk'))
      clear hf hwk hwok
      cases wa <;> cases wb
      all_goals (first | (exfalso; cases hwk'; done) | skip)
      all_goals
        clear hwk'
        go_enter Try.func29, Try.ntmps29
        go_wp2_with (first | (go_at_call 54; refine (HF.out).mono ?_; rintro e w1 ⟨rfl, rfl⟩))
        go_ret2
        exact ⟨_, by rw [HV.out]; rfl, by rw [HV.out]; exact Kd.R_nil _ _ _ _ _, Below.refl _ _⟩
    case pos =>
      have hok := hwok.trans hwk
      obtain rfl : wa = true := and_l hwk
      obtain rfl : wb = true := and_r hwk
      have HV := Aside0.mk (smoothR_good hf hok)
      have hlen := (fault_good hf).1
      have HS := Aside0.mk (sm_words hf hw hok)
      clear hf hwk hok hwok hw
      go_enter Try.func29, Try.ntmps29
      go_wp2_with (first | (go_at_call 54; refine (HF.out).mono ?_; rintro e w1 ⟨rfl, rfl⟩))
      go_loopw [7, 8, 9, 10, 25] (fun v7 v8 v9 v10 v25 wr => ∃ k : Nat, k ≤ zs.length ∧ v25 = .int .i64 k ∧ Aside0 (kF.R 35 wr w.heap.size (fun _ => True) v7 (smF zs wt k)) ∧ Aside0 (Below w.heap.size w wr)) (fun v7 v8 v9 v10 v25 _ => zs.length - (intOf v25).toNat)
      case atStart => exact ⟨0, Nat.zero_le _, rfl, ⟨Kd.R_nil _ _ _ _ _⟩, ⟨Below.refl _ _⟩⟩
      case round =>
        obtain ⟨k, hk, rfl, R7, B7⟩ := hrel
        by_cases hlt : k < zs.length
        · obtain ⟨ad, eA, hcA⟩ := at_num (Kd.C_below HA.out B7.out) k hlt
          obtain ⟨y, hy, _, _, y0, y1⟩ := HS.out k hlt
          have hb : zs[k]! = zs[k] := getElem!_pos zs k hlt
          rw [hb] at y0 y1
          have HY := Aside0.mk hy
          have hsl : (smF zs wt k).length = k := smF_len zs wt k
          clear hy hb
          generalize zs[k] = z at *
          subst eA
          have i0 : (0 : Int) ≤ (k : Int) := by omega
          have i1 : (k : Int) < (zs.length : Int) := by omega
          by_cases hk0 : k = 0
          · have HY0 := Aside0.mk (y0 hk0)
            have g1 : decide (0 < k) = false := decide_eq_false (by omega)
            have g2 : decide ((k : Int) > 0) = false := decide_eq_false (by omega)
            have t0 : floatOfInt .f64 z = y := HY0.out.symm
            clear y0 y1 hk0 HY0
            go_wp2_with (first | ((with_reducible refine gate_builtin (b := .append) (xs := #[.tmp 46, .tmp 48]) rfl ?_); at_builtin; refine Kd.R_append kF (w0 := w) w.heap.size rfl (.tmp 46) (.tmp 48) 59 35 (.float .f64 0) 8 rfl Try.underlying59 infoF rfl (by decide) (by omega) (u7) (smF zs wt k) (y) ([.float .f64 y]) (fun _ => True) (fun _ => False) ?aV ?aX ?aP (fun _ hk => hk.elim) (fun _ _ => trivial) ?aO ?aB ?aS ?aL ?_; (case aV => rfl); (case aX => rfl); (case aP => exact rfl); (case aO => exact R7.out); (case aB => exact B7.out); (case aS => exact B7.out.size); (case aL => omega); intro v10 w10 ho hb hgr hat; have R10 := Aside0.mk ho; have B10 := Aside0.mk hb; clear ho hb hgr hat))
            go_roundw
            case rel => exact ⟨k + 1, by omega, by go_num, ⟨by rw [HY.out]; exact R10.out⟩, B10⟩
            case measure => simp [intOf]; omega
          · obtain ⟨a, r, p, b, g3, g4, g5, g6, g7⟩ := y1 (by omega)
            obtain ⟨j, hj⟩ : ∃ j, k = j + 1 := ⟨k - 1, by omega⟩
            have g1 : decide (0 < k) = true := decide_eq_true (by omega)
            have g2 : decide ((k : Int) > 0) = true := decide_eq_true (by omega)
            have t1 := mul_run g4
            have t2 := sub_run g5
            have t3 := mul_run g6
            have t4 := add_run g7
            rw [show k - 1 = j by omega] at g3
            obtain ⟨A7, c7, rfl, hc7, hC7⟩ := Kd.R_reads R7.out
            obtain ⟨bd, eB, hcB⟩ := at_fl hC7 j p g3
            subst eB
            have i2 : (0 : Int) ≤ (j : Int) := by omega
            have i3 : (j : Int) < (((smF zs wt k).length : Nat) : Int) := by omega
            have i4 : IntKind.i64.wrap ((k : Int) - 1) = (j : Int) := by rw [Go.IntWalk.i64_in _ (by omega)]; omega
            have HJ := Aside0.mk hj
            obtain ⟨x, hx⟩ : ∃ x, floatOfInt .f64 z = x := ⟨_, rfl⟩
            rw [hx] at t1
            have HSL := Aside0.mk hsl
            clear y0 y1 hk0 g3 g4 g5 g6 g7 hC7 hj hsl
            generalize hSM : smF zs wt k = SM at *
            have HSM := Aside0.mk hSM
            have hSL : SM.length ≤ 4096 := by have := HSL.out; omega
            clear hSM
            go_wp2_with (first | ((with_reducible refine gate_builtin (b := .append) (xs := #[.tmp 46, .tmp 48]) rfl ?_); at_builtin; refine Kd.R_append kF (w0 := w) w.heap.size rfl (.tmp 46) (.tmp 48) 59 35 (.float .f64 0) 8 rfl Try.underlying59 infoF rfl (by decide) (by omega) (.slice (some bd) SM.length c7) (SM) (y) ([.float .f64 y]) (fun _ => True) (fun _ => False) ?aV ?aX ?aP (fun _ hk => hk.elim) (fun _ _ => trivial) ?aO ?aB ?aS ?aL ?_; (case aV => rfl); (case aX => rfl); (case aP => exact rfl); (case aO => exact R7.out); (case aB => exact B7.out); (case aS => exact B7.out.size); (case aL => omega); intro v10 w10 ho hb hgr hat; have R10 := Aside0.mk ho; have B10 := Aside0.mk hb; clear ho hb hgr hat))
            go_roundw
            case rel => exact ⟨k + 1, by omega, by go_num, ⟨by rw [HY.out]; exact R10.out⟩, B10⟩
            case measure => simp [intOf]; omega
        · obtain rfl : k = zs.length := by omega
          go_wp2_with fail
          go_ret2
          exact ⟨_, by rw [HV.out]; rfl, by rw [HV.out]; exact R7.out, B7.out⟩
set_option maxRecDepth 100000 in
set_option maxHeartbeats 8000000 in
theorem refsmooth_calls (A : Option Addr) (c : Nat) (zs : List Int) (wt : Nat) (hw : wt < 18446744073709551616) (w : World) (ha : Kd.C (Kd.int .i64) w A zs.length zs) (hc : zs.length ≤ c) (hl : zs.length < 4611686018427387904) :
    Calls Try.prog 30 #[.slice A zs.length c, .float .f64 wt] w (SmPost zs wt w) := by
  have HA := Aside0.mk ha
  have HF := Aside0.mk (history_calls A c zs w ha hc hl)
  clear ha
  have q1 : (FloatKind.f64.format.order wt 0 == some .gt) = (D.order wt 0 == some .gt) := rfl
  have q2 : (FloatKind.f64.format.order wt 4607182418800017408 == some .lt || FloatKind.f64.format.order wt 4607182418800017408 == some .eq) = leC wt one := rfl
  obtain ⟨wa, hwa⟩ : ∃ b, (D.order wt 0 == some .gt) = b := ⟨_, rfl⟩
  obtain ⟨wb, hwb⟩ : ∃ b, leC wt one = b := ⟨_, rfl⟩
  have hwok : wOk wt = (wa && wb) := by unfold wOk; rw [hwa, hwb]
  rw [hwa] at q1
  rw [hwb] at q2
  clear hwa hwb
  by_cases hf : faultF zs = 0
  case neg =>
    obtain ⟨f, hff⟩ : ∃ f, faultF zs = f := ⟨_, rfl⟩
    rw [hff] at HF hf
    have HV := Aside0.mk (smoothR_bad (w := wt) hff hf)
    have d1 : (f != 0) = true := bne_iff_ne.2 hf
    clear hff hf q1 q2 hwok
    go_enter Try.func30, Try.ntmps30
    go_wp2_with (first | (go_at_call 56; refine (HF.out).mono ?_; rintro e w1 ⟨rfl, rfl⟩))
    go_ret2
    exact ⟨_, by rw [HV.out]; rfl, by rw [HV.out]; exact Kd.R_nil _ _ _ _ _, Below.refl _ _⟩
  case pos =>
    rw [hf] at HF
    by_cases hwk : (wa && wb) = true
    case neg =>
      have hwk' : (wa && wb) = false := by simpa using hwk
      have HV := Aside0.mk (smoothR_w hf (hwok.trans hwk'))
      clear hf hwk hwok
      cases wa <;> cases wb
      all_goals (first | (exfalso; cases hwk'; done) | skip)
      all_goals
        clear hwk'
        go_enter Try.func30, Try.ntmps30
        go_wp2_with (first | (go_at_call 56; refine (HF.out).mono ?_; rintro e w1 ⟨rfl, rfl⟩))
        go_ret2
        exact ⟨_, by rw [HV.out]; rfl, by rw [HV.out]; exact Kd.R_nil _ _ _ _ _, Below.refl _ _⟩
    case pos =>
      have hok := hwok.trans hwk
      obtain rfl : wa = true := and_l hwk
      obtain rfl : wb = true := and_r hwk
      have HV := Aside0.mk (smoothR_good hf hok)
      have hlen := (fault_good hf).1
      have HS := Aside0.mk (sm_words hf hw hok)
      obtain ⟨pw, bw⟩ := wOk_pf hw hok
      obtain ⟨rr, hrr, _⟩ := rest_words pw bw
      have tr := sub_run hrr
      have HRR := Aside0.mk hrr
      clear hrr pw bw
      clear hf hwk hok hwok hw
      go_enter Try.func30, Try.ntmps30
      go_wp2_with (first | (go_at_call 56; refine (HF.out).mono ?_; rintro e w1 ⟨rfl, rfl⟩))
      go_loopw [8, 10, 11, 12, 13] (fun v8 v10 v11 v12 v13 wr => ∃ k : Nat, k ≤ zs.length ∧ v10 = .int .i64 k ∧ Aside0 (kF.R 35 wr w.heap.size (fun _ => True) v8 (smF zs wt k)) ∧ Aside0 (Below w.heap.size w wr)) (fun v8 v10 v11 v12 v13 _ => zs.length - (intOf v10).toNat)
      case atStart => exact ⟨0, Nat.zero_le _, rfl, ⟨Kd.R_nil _ _ _ _ _⟩, ⟨Below.refl _ _⟩⟩
      case round =>
        obtain ⟨k, hk, rfl, R7, B7⟩ := hrel
        by_cases hlt : k < zs.length
        · obtain ⟨ad, eA, hcA⟩ := at_num (Kd.C_below HA.out B7.out) k hlt
          obtain ⟨y, hy, _, _, y0, y1⟩ := HS.out k hlt
          have hb : zs[k]! = zs[k] := getElem!_pos zs k hlt
          rw [hb] at y0 y1
          have HY := Aside0.mk hy
          have hsl : (smF zs wt k).length = k := smF_len zs wt k
          clear hy hb
          generalize zs[k] = z at *
          subst eA
          have i0 : (0 : Int) ≤ (k : Int) := by omega
          have i1 : (k : Int) < (zs.length : Int) := by omega
          by_cases hk0 : k = 0
          · have HY0 := Aside0.mk (y0 hk0)
            have g1 : decide (0 < k) = false := decide_eq_false (by omega)
            have g2 : decide ((k : Int) > 0) = false := decide_eq_false (by omega)
            have t0 : floatOfInt .f64 z = y := HY0.out.symm
            clear y0 y1 hk0 HY0
            go_wp2_with (first | ((with_reducible refine gate_builtin (b := .append) (xs := #[.tmp 55, .tmp 57]) rfl ?_); at_builtin; refine Kd.R_append kF (w0 := w) w.heap.size rfl (.tmp 55) (.tmp 57) 59 35 (.float .f64 0) 8 rfl Try.underlying59 infoF rfl (by decide) (by omega) (u8) (smF zs wt k) (y) ([.float .f64 y]) (fun _ => True) (fun _ => False) ?aV ?aX ?aP (fun _ hk => hk.elim) (fun _ _ => trivial) ?aO ?aB ?aS ?aL ?_; (case aV => rfl); (case aX => rfl); (case aP => exact rfl); (case aO => exact R7.out); (case aB => exact B7.out); (case aS => exact B7.out.size); (case aL => omega); intro v10 w10 ho hb hgr hat; have R10 := Aside0.mk ho; have B10 := Aside0.mk hb; clear ho hb hgr hat))
            go_roundw
            case rel => exact ⟨k + 1, by omega, by go_num, ⟨by rw [HY.out]; exact R10.out⟩, B10⟩
            case measure => simp [intOf]; omega
          · obtain ⟨a, r, p, b, g3, g4, g5, g6, g7⟩ := y1 (by omega)
            obtain ⟨j, hj⟩ : ∃ j, k = j + 1 := ⟨k - 1, by omega⟩
            have g1 : decide (0 < k) = true := decide_eq_true (by omega)
            have g2 : decide ((k : Int) > 0) = true := decide_eq_true (by omega)
            have t1 := mul_run g4
            obtain rfl : r = rr := Option.some.inj (g5.symm.trans HRR.out)
            have t3 := mul_run g6
            have t4 := add_run g7
            rw [show k - 1 = j by omega] at g3
            obtain ⟨A7, c7, rfl, hc7, hC7⟩ := Kd.R_reads R7.out
            obtain ⟨bd, eB, hcB⟩ := at_fl hC7 j p g3
            subst eB
            have i2 : (0 : Int) ≤ (j : Int) := by omega
            have i3 : (j : Int) < (((smF zs wt k).length : Nat) : Int) := by omega
            have i4 : IntKind.i64.wrap ((k : Int) - 1) = (j : Int) := by rw [Go.IntWalk.i64_in _ (by omega)]; omega
            have HJ := Aside0.mk hj
            obtain ⟨x, hx⟩ : ∃ x, floatOfInt .f64 z = x := ⟨_, rfl⟩
            rw [hx] at t1
            have HSL := Aside0.mk hsl
            clear y0 y1 hk0 g3 g4 g5 g6 g7 hC7 hj hsl
            generalize hSM : smF zs wt k = SM at *
            have HSM := Aside0.mk hSM
            have hSL : SM.length ≤ 4096 := by have := HSL.out; omega
            clear hSM
            go_wp2_with (first | ((with_reducible refine gate_builtin (b := .append) (xs := #[.tmp 55, .tmp 57]) rfl ?_); at_builtin; refine Kd.R_append kF (w0 := w) w.heap.size rfl (.tmp 55) (.tmp 57) 59 35 (.float .f64 0) 8 rfl Try.underlying59 infoF rfl (by decide) (by omega) (.slice (some bd) SM.length c7) (SM) (y) ([.float .f64 y]) (fun _ => True) (fun _ => False) ?aV ?aX ?aP (fun _ hk => hk.elim) (fun _ _ => trivial) ?aO ?aB ?aS ?aL ?_; (case aV => rfl); (case aX => rfl); (case aP => exact rfl); (case aO => exact R7.out); (case aB => exact B7.out); (case aS => exact B7.out.size); (case aL => omega); intro v10 w10 ho hb hgr hat; have R10 := Aside0.mk ho; have B10 := Aside0.mk hb; clear ho hb hgr hat))
            go_roundw
            case rel => exact ⟨k + 1, by omega, by go_num, ⟨by rw [HY.out]; exact R10.out⟩, B10⟩
            case measure => simp [intOf]; omega
        · obtain rfl : k = zs.length := by omega
          go_wp2_with fail
          go_ret2
          exact ⟨_, by rw [HV.out]; rfl, by rw [HV.out]; exact R7.out, B7.out⟩
end Go.Proofs.Ytoopoecopahcbaa.Fl
