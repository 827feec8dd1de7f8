/- plan.Strong. No condition. -/
import Derived.Test.YtoopoecopahcbaaPlStrong2
import Derived.Deep.QuietTactic
import Derived.BigQuiet
namespace Go.Proofs.Ytoopoecopahcbaa.Fl
open Go Go.RowKit Ieee
set_option linter.unusedVariables false
set_option linter.unusedSimpArgs false

section
variable {P : Program} {w : World} {a : Addr} {m : Mode}
theorem run_store_float (k : FloatKind) (b : Nat) : (store a (.float k b) m).run P w = stored P w a (.float k b) m := run_store P w a _ m rfl
theorem run_store_complex (k : FloatKind) (b c : Nat) : (store a (.complex k b c) m).run P w = stored P w a (.complex k b c) m := run_store P w a _ m rfl
end
attribute [local go_sem] run_store_float run_store_complex
theorem nan_or (b : Nat) : ((D.read b).isNaN = true ∧ fin b = false) ∨ ((D.read b).isNaN = false ∧ fin b = false) ∨ ((D.read b).isNaN = false ∧ fin b = true) := by
  unfold fin
  cases D.read b <;> simp [Datum.isNaN]
def sC (a b : Nat → Nat) (k j : Nat) : Value := .float .f64 (if j < k then sB (a j) (b j) else 0)
set_option maxRecDepth 100000 in
set_option maxHeartbeats 8000000 in
theorem plan_calls (a b : Nat → Nat) (ha : ∀ j, a j < 18446744073709551616) (hb : ∀ j, b j < 18446744073709551616) (w : World) : Calls Try.prog 18 #[.agg #[.complex .f64 (a 0) (b 0), .complex .f64 (a 1) (b 1), .complex .f64 (a 2) (b 2), .complex .f64 (a 3) (b 3)]] w fun e w' => e = .returned (strongV a b) ∧ Below w.heap.size w w' := by
  have HA := Lib.hid ha
  have HB := Lib.hid hb
  clear ha hb
  have x0 : ∀ w, (Instr.index 38 (.agg #[.complex .f64 (a 0) (b 0), .complex .f64 (a 1) (b 1), .complex .f64 (a 2) (b 2), .complex .f64 (a 3) (b 3)]) (.int .i64 0)).run Try.prog w = .ok (.complex .f64 (a 0) (b 0)) w := fun _ => by kernel_rfl
  have x1 : ∀ w, (Instr.index 38 (.agg #[.complex .f64 (a 0) (b 0), .complex .f64 (a 1) (b 1), .complex .f64 (a 2) (b 2), .complex .f64 (a 3) (b 3)]) (.int .i64 1)).run Try.prog w = .ok (.complex .f64 (a 1) (b 1)) w := fun _ => by kernel_rfl
  have x2 : ∀ w, (Instr.index 38 (.agg #[.complex .f64 (a 0) (b 0), .complex .f64 (a 1) (b 1), .complex .f64 (a 2) (b 2), .complex .f64 (a 3) (b 3)]) (.int .i64 2)).run Try.prog w = .ok (.complex .f64 (a 2) (b 2)) w := fun _ => by kernel_rfl
  have x3 : ∀ w, (Instr.index 38 (.agg #[.complex .f64 (a 0) (b 0), .complex .f64 (a 1) (b 1), .complex .f64 (a 2) (b 2), .complex .f64 (a 3) (b 3)]) (.int .i64 3)).run Try.prog w = .ok (.complex .f64 (a 3) (b 3)) w := fun _ => by kernel_rfl
  have y0 : ∀ p q w, (Instr.index 99 (.agg #[.float .f64 p, .float .f64 q]) (.int .i64 0)).run Try.prog w = .ok (.float .f64 p) w := fun _ _ _ => by kernel_rfl
  have y1 : ∀ p q w, (Instr.index 99 (.agg #[.float .f64 p, .float .f64 q]) (.int .i64 1)).run Try.prog w = .ok (.float .f64 q) w := fun _ _ _ => by kernel_rfl
  go_enter Try.func18, Try.ntmps18
  go_wp2_with fail
  go_loopw [6, 7, 9, 11, 20] (fun v6 v7 v9 v11 v20 wr => ∃ k : Nat, k ≤ 4 ∧ v11 = .int .i64 k ∧ (∀ j, j < k → goodAt a b j = true) ∧ wr = (w.alloc (.cells #[.complex .f64 (a 0) (b 0), .complex .f64 (a 1) (b 1), .complex .f64 (a 2) (b 2), .complex .f64 (a 3) (b 3)] 38 (0, 0))).alloc (.cells #[sC a b k 0, sC a b k 1, sC a b k 2, sC a b k 3] 36 (0, 0))) (fun _ _ _ v11 _ _ => 4 - (intOf v11).toNat)
  case atStart => exact ⟨0, by omega, rfl, by omega, rfl⟩
  case round =>
    obtain ⟨k, hk, rfl, hg, rfl⟩ := hrel
    have HG := Lib.hid hg
    clear hg
    rcases k with _ | _ | _ | _ | _ | k
    · simp only [sC, Nat.reduceAdd, Nat.reduceLT, if_true, if_false]
      rcases nan_or (a 0) with ⟨p1, f1⟩ | ⟨p1, f1⟩ | ⟨p1, f1⟩
      · have HV := Lib.hid (bad_V 0 (by omega) (show goodAt a b 0 = false by unfold goodAt; rw [f1]; rfl))
        clear f1
        go_wp2_with fail
        refine wp_loop_rounds 1 ?_
        rw [rounds_succ]
        go_wp2_with (first | (go_at_call 45; refine (isnan_calls _ _).mono ?_; rintro e w1 ⟨rfl, rfl⟩))
        go_ret3
        exact ⟨by rw [HV.out]; rfl, ((Below.refl _ _).alloc (Nat.le_refl _) _).alloc (by simp) _⟩
      · have HV := Lib.hid (bad_V 0 (by omega) (show goodAt a b 0 = false by unfold goodAt; rw [f1]; rfl))
        have HI := Lib.hid (fun w => isinf_calls (a 0) (HA.out 0) p1 w)
        rw [f1] at HI
        clear f1
        go_wp2_with fail
        refine wp_loop_rounds 1 ?_
        rw [rounds_succ]
        go_wp2_with (first | (go_at_call 45; refine (isnan_calls _ _).mono ?_; rintro e w1 ⟨rfl, rfl⟩) | (go_at_call 46; refine (HI.out _).mono ?_; rintro e w1 ⟨rfl, rfl⟩))
        go_ret3
        exact ⟨by rw [HV.out]; rfl, ((Below.refl _ _).alloc (Nat.le_refl _) _).alloc (by simp) _⟩
      · have HI := Lib.hid (fun w => isinf_calls (a 0) (HA.out 0) p1 w)
        rw [f1] at HI
        rcases nan_or (b 0) with ⟨p2, f2⟩ | ⟨p2, f2⟩ | ⟨p2, f2⟩
        · have HV := Lib.hid (bad_V 0 (by omega) (show goodAt a b 0 = false by unfold goodAt; rw [f1, f2]; rfl))
          clear f1 f2
          go_wp2_with fail
          refine wp_loop_rounds 2 ?_
          rw [rounds_succ]
          go_wp2_with (first | (go_at_call 45; refine (isnan_calls _ _).mono ?_; rintro e w1 ⟨rfl, rfl⟩) | (go_at_call 46; refine (HI.out _).mono ?_; rintro e w1 ⟨rfl, rfl⟩))
          rw [rounds_succ]
          go_wp2_with (first | (go_at_call 45; refine (isnan_calls _ _).mono ?_; rintro e w1 ⟨rfl, rfl⟩))
          go_ret3
          exact ⟨by rw [HV.out]; rfl, ((Below.refl _ _).alloc (Nat.le_refl _) _).alloc (by simp) _⟩
        · have HV := Lib.hid (bad_V 0 (by omega) (show goodAt a b 0 = false by unfold goodAt; rw [f1, f2]; rfl))
          have HJ := Lib.hid (fun w => isinf_calls (b 0) (HB.out 0) p2 w)
          rw [f2] at HJ
          clear f1 f2
          go_wp2_with fail
          refine wp_loop_rounds 2 ?_
          rw [rounds_succ]
          go_wp2_with (first | (go_at_call 45; refine (isnan_calls _ _).mono ?_; rintro e w1 ⟨rfl, rfl⟩) | (go_at_call 46; refine (HI.out _).mono ?_; rintro e w1 ⟨rfl, rfl⟩))
          rw [rounds_succ]
          go_wp2_with (first | (go_at_call 45; refine (isnan_calls _ _).mono ?_; rintro e w1 ⟨rfl, rfl⟩) | (go_at_call 46; refine (HJ.out _).mono ?_; rintro e w1 ⟨rfl, rfl⟩))
          go_ret3
          exact ⟨by rw [HV.out]; rfl, ((Below.refl _ _).alloc (Nat.le_refl _) _).alloc (by simp) _⟩
        · have HJ := Lib.hid (fun w => isinf_calls (b 0) (HB.out 0) p2 w)
          rw [f2] at HJ
          obtain ⟨p, q, _, m1, m2, m3⟩ := sB_runs f1 f2
          have HK := Lib.hid (show (fin (a 0) && fin (b 0)) = true by rw [f1, f2]; rfl)
          clear f1 f2
          go_wp2_with fail
          refine wp_loop_rounds 3 ?_
          rw [rounds_succ]
          go_wp2_with (first | (go_at_call 45; refine (isnan_calls _ _).mono ?_; rintro e w1 ⟨rfl, rfl⟩) | (go_at_call 46; refine (HI.out _).mono ?_; rintro e w1 ⟨rfl, rfl⟩))
          rw [rounds_succ]
          go_wp2_with (first | (go_at_call 45; refine (isnan_calls _ _).mono ?_; rintro e w1 ⟨rfl, rfl⟩) | (go_at_call 46; refine (HJ.out _).mono ?_; rintro e w1 ⟨rfl, rfl⟩))
          rw [rounds_succ]
          go_wp2_with fail
          go_roundw
          case rel => exact ⟨0 + 1, by omega, by go_num, good_next HG.out HK.out, by simp [sC]⟩
          case measure => simp [intOf]
    · simp only [sC, Nat.reduceAdd, Nat.reduceLT, if_true, if_false]
      rcases nan_or (a 1) with ⟨p1, f1⟩ | ⟨p1, f1⟩ | ⟨p1, f1⟩
      · have HV := Lib.hid (bad_V 1 (by omega) (show goodAt a b 1 = false by unfold goodAt; rw [f1]; rfl))
        clear f1
        go_wp2_with fail
        refine wp_loop_rounds 1 ?_
        rw [rounds_succ]
        go_wp2_with (first | (go_at_call 45; refine (isnan_calls _ _).mono ?_; rintro e w1 ⟨rfl, rfl⟩))
        go_ret3
        exact ⟨by rw [HV.out]; rfl, ((Below.refl _ _).alloc (Nat.le_refl _) _).alloc (by simp) _⟩
      · have HV := Lib.hid (bad_V 1 (by omega) (show goodAt a b 1 = false by unfold goodAt; rw [f1]; rfl))
        have HI := Lib.hid (fun w => isinf_calls (a 1) (HA.out 1) p1 w)
        rw [f1] at HI
        clear f1
        go_wp2_with fail
        refine wp_loop_rounds 1 ?_
        rw [rounds_succ]
        go_wp2_with (first | (go_at_call 45; refine (isnan_calls _ _).mono ?_; rintro e w1 ⟨rfl, rfl⟩) | (go_at_call 46; refine (HI.out _).mono ?_; rintro e w1 ⟨rfl, rfl⟩))
        go_ret3
        exact ⟨by rw [HV.out]; rfl, ((Below.refl _ _).alloc (Nat.le_refl _) _).alloc (by simp) _⟩
      · have HI := Lib.hid (fun w => isinf_calls (a 1) (HA.out 1) p1 w)
        rw [f1] at HI
        rcases nan_or (b 1) with ⟨p2, f2⟩ | ⟨p2, f2⟩ | ⟨p2, f2⟩
        · have HV := Lib.hid (bad_V 1 (by omega) (show goodAt a b 1 = false by unfold goodAt; rw [f1, f2]; rfl))
          clear f1 f2
          go_wp2_with fail
          refine wp_loop_rounds 2 ?_
          rw [rounds_succ]
          go_wp2_with (first | (go_at_call 45; refine (isnan_calls _ _).mono ?_; rintro e w1 ⟨rfl, rfl⟩) | (go_at_call 46; refine (HI.out _).mono ?_; rintro e w1 ⟨rfl, rfl⟩))
          rw [rounds_succ]
          go_wp2_with (first | (go_at_call 45; refine (isnan_calls _ _).mono ?_; rintro e w1 ⟨rfl, rfl⟩))
          go_ret3
          exact ⟨by rw [HV.out]; rfl, ((Below.refl _ _).alloc (Nat.le_refl _) _).alloc (by simp) _⟩
        · have HV := Lib.hid (bad_V 1 (by omega) (show goodAt a b 1 = false by unfold goodAt; rw [f1, f2]; rfl))
          have HJ := Lib.hid (fun w => isinf_calls (b 1) (HB.out 1) p2 w)
          rw [f2] at HJ
          clear f1 f2
          go_wp2_with fail
          refine wp_loop_rounds 2 ?_
          rw [rounds_succ]
          go_wp2_with (first | (go_at_call 45; refine (isnan_calls _ _).mono ?_; rintro e w1 ⟨rfl, rfl⟩) | (go_at_call 46; refine (HI.out _).mono ?_; rintro e w1 ⟨rfl, rfl⟩))
          rw [rounds_succ]
          go_wp2_with (first | (go_at_call 45; refine (isnan_calls _ _).mono ?_; rintro e w1 ⟨rfl, rfl⟩) | (go_at_call 46; refine (HJ.out _).mono ?_; rintro e w1 ⟨rfl, rfl⟩))
          go_ret3
          exact ⟨by rw [HV.out]; rfl, ((Below.refl _ _).alloc (Nat.le_refl _) _).alloc (by simp) _⟩
        · have HJ := Lib.hid (fun w => isinf_calls (b 1) (HB.out 1) p2 w)
          rw [f2] at HJ
          obtain ⟨p, q, _, m1, m2, m3⟩ := sB_runs f1 f2
          have HK := Lib.hid (show (fin (a 1) && fin (b 1)) = true by rw [f1, f2]; rfl)
          clear f1 f2
          go_wp2_with fail
          refine wp_loop_rounds 3 ?_
          rw [rounds_succ]
          go_wp2_with (first | (go_at_call 45; refine (isnan_calls _ _).mono ?_; rintro e w1 ⟨rfl, rfl⟩) | (go_at_call 46; refine (HI.out _).mono ?_; rintro e w1 ⟨rfl, rfl⟩))
          rw [rounds_succ]
          go_wp2_with (first | (go_at_call 45; refine (isnan_calls _ _).mono ?_; rintro e w1 ⟨rfl, rfl⟩) | (go_at_call 46; refine (HJ.out _).mono ?_; rintro e w1 ⟨rfl, rfl⟩))
          rw [rounds_succ]
          go_wp2_with fail
          go_roundw
          case rel => exact ⟨1 + 1, by omega, by go_num, good_next HG.out HK.out, by simp [sC]⟩
          case measure => simp [intOf]
    · simp only [sC, Nat.reduceAdd, Nat.reduceLT, if_true, if_false]
      rcases nan_or (a 2) with ⟨p1, f1⟩ | ⟨p1, f1⟩ | ⟨p1, f1⟩
      · have HV := Lib.hid (bad_V 2 (by omega) (show goodAt a b 2 = false by unfold goodAt; rw [f1]; rfl))
        clear f1
        go_wp2_with fail
        refine wp_loop_rounds 1 ?_
        rw [rounds_succ]
        go_wp2_with (first | (go_at_call 45; refine (isnan_calls _ _).mono ?_; rintro e w1 ⟨rfl, rfl⟩))
        go_ret3
        exact ⟨by rw [HV.out]; rfl, ((Below.refl _ _).alloc (Nat.le_refl _) _).alloc (by simp) _⟩
      · have HV := Lib.hid (bad_V 2 (by omega) (show goodAt a b 2 = false by unfold goodAt; rw [f1]; rfl))
        have HI := Lib.hid (fun w => isinf_calls (a 2) (HA.out 2) p1 w)
        rw [f1] at HI
        clear f1
        go_wp2_with fail
        refine wp_loop_rounds 1 ?_
        rw [rounds_succ]
        go_wp2_with (first | (go_at_call 45; refine (isnan_calls _ _).mono ?_; rintro e w1 ⟨rfl, rfl⟩) | (go_at_call 46; refine (HI.out _).mono ?_; rintro e w1 ⟨rfl, rfl⟩))
        go_ret3
        exact ⟨by rw [HV.out]; rfl, ((Below.refl _ _).alloc (Nat.le_refl _) _).alloc (by simp) _⟩
      · have HI := Lib.hid (fun w => isinf_calls (a 2) (HA.out 2) p1 w)
        rw [f1] at HI
        rcases nan_or (b 2) with ⟨p2, f2⟩ | ⟨p2, f2⟩ | ⟨p2, f2⟩
        · have HV := Lib.hid (bad_V 2 (by omega) (show goodAt a b 2 = false by unfold goodAt; rw [f1, f2]; rfl))
          clear f1 f2
          go_wp2_with fail
          refine wp_loop_rounds 2 ?_
          rw [rounds_succ]
          go_wp2_with (first | (go_at_call 45; refine (isnan_calls _ _).mono ?_; rintro e w1 ⟨rfl, rfl⟩) | (go_at_call 46; refine (HI.out _).mono ?_; rintro e w1 ⟨rfl, rfl⟩))
          rw [rounds_succ]
          go_wp2_with (first | (go_at_call 45; refine (isnan_calls _ _).mono ?_; rintro e w1 ⟨rfl, rfl⟩))
          go_ret3
          exact ⟨by rw [HV.out]; rfl, ((Below.refl _ _).alloc (Nat.le_refl _) _).alloc (by simp) _⟩
        · have HV := Lib.hid (bad_V 2 (by omega) (show goodAt a b 2 = false by unfold goodAt; rw [f1, f2]; rfl))
          have HJ := Lib.hid (fun w => isinf_calls (b 2) (HB.out 2) p2 w)
          rw [f2] at HJ
          clear f1 f2
          go_wp2_with fail
          refine wp_loop_rounds 2 ?_
          rw [rounds_succ]
          go_wp2_with (first | (go_at_call 45; refine (isnan_calls _ _).mono ?_; rintro e w1 ⟨rfl, rfl⟩) | (go_at_call 46; refine (HI.out _).mono ?_; rintro e w1 ⟨rfl, rfl⟩))
          rw [rounds_succ]
          go_wp2_with (first | (go_at_call 45; refine (isnan_calls _ _).mono ?_; rintro e w1 ⟨rfl, rfl⟩) | (go_at_call 46; refine (HJ.out _).mono ?_; rintro e w1 ⟨rfl, rfl⟩))
          go_ret3
          exact ⟨by rw [HV.out]; rfl, ((Below.refl _ _).alloc (Nat.le_refl _) _).alloc (by simp) _⟩
        · have HJ := Lib.hid (fun w => isinf_calls (b 2) (HB.out 2) p2 w)
          rw [f2] at HJ
          obtain ⟨p, q, _, m1, m2, m3⟩ := sB_runs f1 f2
          have HK := Lib.hid (show (fin (a 2) && fin (b 2)) = true by rw [f1, f2]; rfl)
          clear f1 f2
          go_wp2_with fail
          refine wp_loop_rounds 3 ?_
          rw [rounds_succ]
          go_wp2_with (first | (go_at_call 45; refine (isnan_calls _ _).mono ?_; rintro e w1 ⟨rfl, rfl⟩) | (go_at_call 46; refine (HI.out _).mono ?_; rintro e w1 ⟨rfl, rfl⟩))
          rw [rounds_succ]
          go_wp2_with (first | (go_at_call 45; refine (isnan_calls _ _).mono ?_; rintro e w1 ⟨rfl, rfl⟩) | (go_at_call 46; refine (HJ.out _).mono ?_; rintro e w1 ⟨rfl, rfl⟩))
          rw [rounds_succ]
          go_wp2_with fail
          go_roundw
          case rel => exact ⟨2 + 1, by omega, by go_num, good_next HG.out HK.out, by simp [sC]⟩
          case measure => simp [intOf]
    · simp only [sC, Nat.reduceAdd, Nat.reduceLT, if_true, if_false]
      rcases nan_or (a 3) with ⟨p1, f1⟩ | ⟨p1, f1⟩ | ⟨p1, f1⟩
      · have HV := Lib.hid (bad_V 3 (by omega) (show goodAt a b 3 = false by unfold goodAt; rw [f1]; rfl))
        clear f1
        go_wp2_with fail
        refine wp_loop_rounds 1 ?_
        rw [rounds_succ]
        go_wp2_with (first | (go_at_call 45; refine (isnan_calls _ _).mono ?_; rintro e w1 ⟨rfl, rfl⟩))
        go_ret3
        exact ⟨by rw [HV.out]; rfl, ((Below.refl _ _).alloc (Nat.le_refl _) _).alloc (by simp) _⟩
      · have HV := Lib.hid (bad_V 3 (by omega) (show goodAt a b 3 = false by unfold goodAt; rw [f1]; rfl))
        have HI := Lib.hid (fun w => isinf_calls (a 3) (HA.out 3) p1 w)
        rw [f1] at HI
        clear f1
        go_wp2_with fail
        refine wp_loop_rounds 1 ?_
        rw [rounds_succ]
        go_wp2_with (first | (go_at_call 45; refine (isnan_calls _ _).mono ?_; rintro e w1 ⟨rfl, rfl⟩) | (go_at_call 46; refine (HI.out _).mono ?_; rintro e w1 ⟨rfl, rfl⟩))
        go_ret3
        exact ⟨by rw [HV.out]; rfl, ((Below.refl _ _).alloc (Nat.le_refl _) _).alloc (by simp) _⟩
      · have HI := Lib.hid (fun w => isinf_calls (a 3) (HA.out 3) p1 w)
        rw [f1] at HI
        rcases nan_or (b 3) with ⟨p2, f2⟩ | ⟨p2, f2⟩ | ⟨p2, f2⟩
        · have HV := Lib.hid (bad_V 3 (by omega) (show goodAt a b 3 = false by unfold goodAt; rw [f1, f2]; rfl))
          clear f1 f2
          go_wp2_with fail
          refine wp_loop_rounds 2 ?_
          rw [rounds_succ]
          go_wp2_with (first | (go_at_call 45; refine (isnan_calls _ _).mono ?_; rintro e w1 ⟨rfl, rfl⟩) | (go_at_call 46; refine (HI.out _).mono ?_; rintro e w1 ⟨rfl, rfl⟩))
          rw [rounds_succ]
          go_wp2_with (first | (go_at_call 45; refine (isnan_calls _ _).mono ?_; rintro e w1 ⟨rfl, rfl⟩))
          go_ret3
          exact ⟨by rw [HV.out]; rfl, ((Below.refl _ _).alloc (Nat.le_refl _) _).alloc (by simp) _⟩
        · have HV := Lib.hid (bad_V 3 (by omega) (show goodAt a b 3 = false by unfold goodAt; rw [f1, f2]; rfl))
          have HJ := Lib.hid (fun w => isinf_calls (b 3) (HB.out 3) p2 w)
          rw [f2] at HJ
          clear f1 f2
          go_wp2_with fail
          refine wp_loop_rounds 2 ?_
          rw [rounds_succ]
          go_wp2_with (first | (go_at_call 45; refine (isnan_calls _ _).mono ?_; rintro e w1 ⟨rfl, rfl⟩) | (go_at_call 46; refine (HI.out _).mono ?_; rintro e w1 ⟨rfl, rfl⟩))
          rw [rounds_succ]
          go_wp2_with (first | (go_at_call 45; refine (isnan_calls _ _).mono ?_; rintro e w1 ⟨rfl, rfl⟩) | (go_at_call 46; refine (HJ.out _).mono ?_; rintro e w1 ⟨rfl, rfl⟩))
          go_ret3
          exact ⟨by rw [HV.out]; rfl, ((Below.refl _ _).alloc (Nat.le_refl _) _).alloc (by simp) _⟩
        · have HJ := Lib.hid (fun w => isinf_calls (b 3) (HB.out 3) p2 w)
          rw [f2] at HJ
          obtain ⟨p, q, _, m1, m2, m3⟩ := sB_runs f1 f2
          have HK := Lib.hid (show (fin (a 3) && fin (b 3)) = true by rw [f1, f2]; rfl)
          clear f1 f2
          go_wp2_with fail
          refine wp_loop_rounds 3 ?_
          rw [rounds_succ]
          go_wp2_with (first | (go_at_call 45; refine (isnan_calls _ _).mono ?_; rintro e w1 ⟨rfl, rfl⟩) | (go_at_call 46; refine (HI.out _).mono ?_; rintro e w1 ⟨rfl, rfl⟩))
          rw [rounds_succ]
          go_wp2_with (first | (go_at_call 45; refine (isnan_calls _ _).mono ?_; rintro e w1 ⟨rfl, rfl⟩) | (go_at_call 46; refine (HJ.out _).mono ?_; rintro e w1 ⟨rfl, rfl⟩))
          rw [rounds_succ]
          go_wp2_with fail
          go_roundw
          case rel => exact ⟨3 + 1, by omega, by go_num, good_next HG.out HK.out, by simp [sC]⟩
          case measure => simp [intOf]
    · simp only [sC, Nat.reduceAdd, Nat.reduceLT, if_true, if_false]
      have HV := Lib.hid (good_V (HG.out 0 (by omega)) (HG.out 1 (by omega)) (HG.out 2 (by omega)) (HG.out 3 (by omega)))
      rw [← order_fmt] at HV
      generalize sB (a 1) (b 1) = s1 at *
      generalize sB (a 2) (b 2) = s2 at *
      obtain ⟨c, hc⟩ : ∃ c, (FloatKind.f64.format.order s2 s1 == some .gt) = c := ⟨_, rfl⟩
      rw [hc] at HV
      cases c
      all_goals
        go_wp2_with fail
        go_quiet (fail)
        go_wp2_with fail
        go_ret3
        exact ⟨by rw [HV.out]; rfl, pw_drewN (((Below.refl _ _).alloc (Nat.le_refl _) _).alloc (by simp) _)⟩
    · omega
end Go.Proofs.Ytoopoecopahcbaa.Fl
