/- larderref17.finite, strength; plan.Strong and larderref17.Strong; PlanStrongs. No condition. -/
import Derived.Test.YtoopoecopahcbaaPlStrong
namespace Go.Proofs.Ytoopoecopahcbaa.Fl
open Go Go.RowKit Ieee
set_option linter.unusedVariables false
set_option linter.unusedSimpArgs false

theorem drewN_below (w : World) (n : Nat) : Below w.heap.size w (w.drewN n) := ⟨rfl, rfl, rfl, Nat.le_refl _, fun _ _ => rfl⟩
theorem finite_calls (b : Nat) (w : World) : Calls Try.prog 47 #[.float .f64 b] w fun e w' => e = .returned (.bool (fin b)) ∧ ∃ n, w' = w.drewN n := by
  by_cases h : fin b = true
  · have h1 := fun w => sub_run_some 35 b h w
    have h2 : (FloatKind.f64.format.order 0 0 == some .eq) = true := by rw [order_fmt, order_zero]; rfl
    rw [h]
    clear h
    go_enter Try.func47, Try.ntmps47
    go_wp2_with fail
    go_ret
    exact ⟨rfl, 0, rfl⟩
  · have h0 : fin b = false := by simpa using h
    obtain ⟨r, h1, h2⟩ := sub_run_none 35 b h0 w
    have h3 : (FloatKind.f64.format.order r 0 == some .eq) = false := by rw [order_fmt, order_nan h2]; rfl
    rw [h0]
    clear h h0 h2
    go_enter Try.func47, Try.ntmps47
    go_wp2_with fail
    go_ret
    exact ⟨rfl, 1, rfl⟩
def sB (a b : Nat) : Nat := (D.add ((D.mul a a).getD 0) ((D.mul b b).getD 0)).getD 0
theorem sB_runs {a b : Nat} (ha : fin a = true) (hb : fin b = true) : ∃ p q, Nn (sB a b) ∧ (∀ t w, (binOp .mul t (.float .f64 a) (.float .f64 a)).run Try.prog w = .ok (.float .f64 p) w) ∧ (∀ t w, (binOp .mul t (.float .f64 b) (.float .f64 b)).run Try.prog w = .ok (.float .f64 q) w) ∧ (∀ t w, (binOp .add t (.float .f64 p) (.float .f64 q)).run Try.prog w = .ok (.float .f64 (sB a b)) w) := by
  obtain ⟨p, hp, np⟩ := mul_self ha
  obtain ⟨q, hq, nq⟩ := mul_self hb
  obtain ⟨r, hr, nr⟩ := add_nn np nq
  have e : sB a b = r := by unfold sB; rw [hp, hq]; simp only [Option.getD_some]; rw [hr]; rfl
  rw [e]
  exact ⟨p, q, nr, fun t w => run_float_arith w .mul t .f64 a a p hp, fun t w => run_float_arith w .mul t .f64 b b q hq, fun t w => run_float_arith w .add t .f64 p q r hr⟩
theorem strength_calls (a b : Nat) (ha : fin a = true) (hb : fin b = true) (w : World) : Calls Try.prog 48 #[.agg #[.float .f64 a, .float .f64 b]] w fun e w' => e = .returned (.float .f64 (sB a b)) ∧ Below w.heap.size w w' := by
  obtain ⟨p, q, _, h1, h2, h3⟩ := sB_runs ha hb
  generalize sB a b = r at *
  clear ha hb
  go_enter Try.func48, Try.ntmps48
  go_wp2_with fail
  go_ret
  exact ⟨rfl, (Below.refl _ _).alloc (Nat.le_refl _) _⟩

def goodAt (a b : Nat → Nat) (k : Nat) : Bool := fin (a k) && fin (b k)
def allGood (a b : Nat → Nat) : Bool := goodAt a b 0 && (goodAt a b 1 && (goodAt a b 2 && goodAt a b 3))
def strongV (a b : Nat → Nat) : Value :=
  if allGood a b = true then (if (D.order (sB (a 2) (b 2)) (sB (a 1) (b 1)) == some .gt) = true then .tuple #[.int .i64 2, .float .f64 (sB (a 2) (b 2)), .int .i64 0] else .tuple #[.int .i64 1, .float .f64 (sB (a 1) (b 1)), .int .i64 0])
  else .tuple #[.int .i64 0, .float .f64 0, .int .i64 172]
theorem bad_V {a b : Nat → Nat} (k : Nat) (hk : k < 4) (h : goodAt a b k = false) : strongV a b = .tuple #[.int .i64 0, .float .f64 0, .int .i64 172] := by
  have : allGood a b = false := by
    unfold allGood
    rcases k with _ | _ | _ | _ | k
    · rw [h]; rfl
    · rw [h]; cases goodAt a b 0 <;> rfl
    · rw [h]; cases goodAt a b 0 <;> cases goodAt a b 1 <;> rfl
    · rw [h]; cases goodAt a b 0 <;> cases goodAt a b 1 <;> cases goodAt a b 2 <;> rfl
    · omega
  unfold strongV
  rw [this]
  rfl
theorem good_V {a b : Nat → Nat} (h0 : goodAt a b 0 = true) (h1 : goodAt a b 1 = true) (h2 : goodAt a b 2 = true) (h3 : goodAt a b 3 = true) : strongV a b = (if (D.order (sB (a 2) (b 2)) (sB (a 1) (b 1)) == some .gt) = true then .tuple #[.int .i64 2, .float .f64 (sB (a 2) (b 2)), .int .i64 0] else .tuple #[.int .i64 1, .float .f64 (sB (a 1) (b 1)), .int .i64 0]) := by
  have : allGood a b = true := by unfold allGood; rw [h0, h1, h2, h3]; rfl
  unfold strongV
  rw [this]
  rfl
def refArg (a b : Nat → Nat) : Value := .agg #[.float .f64 (a 0), .float .f64 (b 0), .float .f64 (a 1), .float .f64 (b 1), .float .f64 (a 2), .float .f64 (b 2), .float .f64 (a 3), .float .f64 (b 3)]
theorem bool_split (x y : Bool) : (x && y) = true ∨ ((x && y) = false ∧ (x = false ∨ (x = true ∧ y = false))) := by cases x <;> cases y <;> simp

theorem and_l {x y : Bool} (h : (x && y) = true) : x = true := by cases x <;> simp_all
theorem and_r {x y : Bool} (h : (x && y) = true) : y = true := by cases x <;> simp_all
theorem good_next {a b : Nat → Nat} {k : Nat} (h : ∀ j, j < k → goodAt a b j = true) (hk : (fin (a k) && fin (b k)) = true) : ∀ j, j < k + 1 → goodAt a b j = true := by
  intro j hj
  rcases Nat.lt_or_ge j k with h1 | h1
  · exact h j h1
  · obtain rfl : j = k := by omega
    exact hk
theorem sB_good {a b : Nat → Nat} {k : Nat} (h : goodAt a b k = true) : fin (a k) = true ∧ fin (b k) = true := ⟨and_l h, and_r h⟩
theorem below_of_drewN {B n : Nat} {w W : World} (h : Below (w.drewN n).heap.size (w.drewN n) W) (hB : B ≤ w.heap.size) : Below B w W := Below.mono (show Below w.heap.size w W from ⟨h.os, h.tape, h.output, h.size, h.block⟩) hB
theorem below_two {w w1 w2 : World} {o : Obj} {n : Nat} (h1 : Below ((w.alloc o).drewN n).heap.size ((w.alloc o).drewN n) w1) (h2 : Below w1.heap.size w1 w2) : Below w.heap.size w w2 := by
  have e : ((w.alloc o).drewN n).heap.size = w.heap.size + 1 := World.size_alloc w o
  have hz := h1.size
  have h1' : Below w.heap.size (w.alloc o) w1 := below_of_drewN h1 (by rw [World.size_alloc]; omega)
  exact ((Below.refl w.heap.size w).alloc (Nat.le_refl _) o).trans (h1'.trans (h2.mono (by omega)))
theorem pw_drewN {B : Nat} {w W : World} (h : Below B w W) {n : Nat} : Below B w (W.drewN n) := ⟨h.os, h.tape, h.output, h.size, h.block⟩
theorem bcell {W w1 : World} (hb : Below W.heap.size W w1) : (∀ b o, b < W.heap.size → w1.cell? ⟨b, o, none⟩ = W.cell? ⟨b, o, none⟩) ∧ (∀ b o, b < W.heap.size → w1.frozen? ⟨b, o, none⟩ = W.frozen? ⟨b, o, none⟩) :=
  ⟨fun b o h => hb.cell (p := ⟨b, o, none⟩) h, fun b o h => hb.frozen (p := ⟨b, o, none⟩) h⟩

set_option maxRecDepth 100000 in
set_option maxHeartbeats 4000000 in
theorem ref_calls (a b : Nat → Nat) (w : World) : Calls Try.prog 19 #[.agg #[.float .f64 (a 0), .float .f64 (b 0), .float .f64 (a 1), .float .f64 (b 1), .float .f64 (a 2), .float .f64 (b 2), .float .f64 (a 3), .float .f64 (b 3)]] w fun e w' => e = .returned (strongV a b) ∧ Below w.heap.size w w' := by
  go_enter Try.func19, Try.ntmps19
  go_wp2_with fail
  go_loopw [5, 6, 7] (fun v5 v6 v7 wr => ∃ k : Nat, k ≤ 4 ∧ v5 = .int .i64 k ∧ (∀ j, j < k → goodAt a b j = true) ∧ ∃ n, wr = (w.alloc (.cells #[.float .f64 (a 0), .float .f64 (b 0), .float .f64 (a 1), .float .f64 (b 1), .float .f64 (a 2), .float .f64 (b 2), .float .f64 (a 3), .float .f64 (b 3)] 41 (0, 0))).drewN n) (fun v5 _ _ _ => 4 - (intOf v5).toNat)
  case atStart => exact ⟨0, by omega, rfl, by omega, 0, rfl⟩
  case round =>
    obtain ⟨k, hk, rfl, hg, n, rfl⟩ := hrel
    have HG := Lib.hid hg
    clear hg
    rcases k with _ | _ | _ | _ | _ | k
    · have hcase := bool_split (fin (a 0)) (fin (b 0))
      rcases hcase with h | ⟨h, h1 | ⟨h1, h2⟩⟩
      · have g1 := and_l h
        have g2 := and_r h
        have HK := Lib.hid h
        clear h
        go_wp2_with (first | (go_at_call 47; refine (finite_calls _ _).mono ?_; rintro e w1 ⟨rfl, n1, rfl⟩))
        go_roundw
        case rel => exact ⟨0 + 1, by omega, by go_num, good_next HG.out HK.out, _, rfl⟩
        case measure => simp [intOf]
      · have HV := Lib.hid (bad_V 0 (by omega) h)
        clear h
        go_wp2_with (first | (go_at_call 47; refine (finite_calls _ _).mono ?_; rintro e w1 ⟨rfl, n1, rfl⟩))
        go_ret3
        exact ⟨by rw [HV.out]; rfl, pw_drewN ((Below.refl _ _).alloc (Nat.le_refl _) _)⟩
      · have HV := Lib.hid (bad_V 0 (by omega) h)
        clear h
        go_wp2_with (first | (go_at_call 47; refine (finite_calls _ _).mono ?_; rintro e w1 ⟨rfl, n1, rfl⟩))
        go_ret3
        exact ⟨by rw [HV.out]; rfl, pw_drewN ((Below.refl _ _).alloc (Nat.le_refl _) _)⟩
    · have hcase := bool_split (fin (a 1)) (fin (b 1))
      rcases hcase with h | ⟨h, h1 | ⟨h1, h2⟩⟩
      · have g1 := and_l h
        have g2 := and_r h
        have HK := Lib.hid h
        clear h
        go_wp2_with (first | (go_at_call 47; refine (finite_calls _ _).mono ?_; rintro e w1 ⟨rfl, n1, rfl⟩))
        go_roundw
        case rel => exact ⟨1 + 1, by omega, by go_num, good_next HG.out HK.out, _, rfl⟩
        case measure => simp [intOf]
      · have HV := Lib.hid (bad_V 1 (by omega) h)
        clear h
        go_wp2_with (first | (go_at_call 47; refine (finite_calls _ _).mono ?_; rintro e w1 ⟨rfl, n1, rfl⟩))
        go_ret3
        exact ⟨by rw [HV.out]; rfl, pw_drewN ((Below.refl _ _).alloc (Nat.le_refl _) _)⟩
      · have HV := Lib.hid (bad_V 1 (by omega) h)
        clear h
        go_wp2_with (first | (go_at_call 47; refine (finite_calls _ _).mono ?_; rintro e w1 ⟨rfl, n1, rfl⟩))
        go_ret3
        exact ⟨by rw [HV.out]; rfl, pw_drewN ((Below.refl _ _).alloc (Nat.le_refl _) _)⟩
    · have hcase := bool_split (fin (a 2)) (fin (b 2))
      rcases hcase with h | ⟨h, h1 | ⟨h1, h2⟩⟩
      · have g1 := and_l h
        have g2 := and_r h
        have HK := Lib.hid h
        clear h
        go_wp2_with (first | (go_at_call 47; refine (finite_calls _ _).mono ?_; rintro e w1 ⟨rfl, n1, rfl⟩))
        go_roundw
        case rel => exact ⟨2 + 1, by omega, by go_num, good_next HG.out HK.out, _, rfl⟩
        case measure => simp [intOf]
      · have HV := Lib.hid (bad_V 2 (by omega) h)
        clear h
        go_wp2_with (first | (go_at_call 47; refine (finite_calls _ _).mono ?_; rintro e w1 ⟨rfl, n1, rfl⟩))
        go_ret3
        exact ⟨by rw [HV.out]; rfl, pw_drewN ((Below.refl _ _).alloc (Nat.le_refl _) _)⟩
      · have HV := Lib.hid (bad_V 2 (by omega) h)
        clear h
        go_wp2_with (first | (go_at_call 47; refine (finite_calls _ _).mono ?_; rintro e w1 ⟨rfl, n1, rfl⟩))
        go_ret3
        exact ⟨by rw [HV.out]; rfl, pw_drewN ((Below.refl _ _).alloc (Nat.le_refl _) _)⟩
    · have hcase := bool_split (fin (a 3)) (fin (b 3))
      rcases hcase with h | ⟨h, h1 | ⟨h1, h2⟩⟩
      · have g1 := and_l h
        have g2 := and_r h
        have HK := Lib.hid h
        clear h
        go_wp2_with (first | (go_at_call 47; refine (finite_calls _ _).mono ?_; rintro e w1 ⟨rfl, n1, rfl⟩))
        go_roundw
        case rel => exact ⟨3 + 1, by omega, by go_num, good_next HG.out HK.out, _, rfl⟩
        case measure => simp [intOf]
      · have HV := Lib.hid (bad_V 3 (by omega) h)
        clear h
        go_wp2_with (first | (go_at_call 47; refine (finite_calls _ _).mono ?_; rintro e w1 ⟨rfl, n1, rfl⟩))
        go_ret3
        exact ⟨by rw [HV.out]; rfl, pw_drewN ((Below.refl _ _).alloc (Nat.le_refl _) _)⟩
      · have HV := Lib.hid (bad_V 3 (by omega) h)
        clear h
        go_wp2_with (first | (go_at_call 47; refine (finite_calls _ _).mono ?_; rintro e w1 ⟨rfl, n1, rfl⟩))
        go_ret3
        exact ⟨by rw [HV.out]; rfl, pw_drewN ((Below.refl _ _).alloc (Nat.le_refl _) _)⟩
    · have g1 := sB_good (HG.out 1 (by omega))
      have g2 := sB_good (HG.out 2 (by omega))
      have HV := Lib.hid (good_V (HG.out 0 (by omega)) (HG.out 1 (by omega)) (HG.out 2 (by omega)) (HG.out 3 (by omega)))
      rw [← order_fmt] at HV
      have S1 := Lib.hid (fun w => strength_calls (a 1) (b 1) g1.1 g1.2 w)
      have S2 := Lib.hid (fun w => strength_calls (a 2) (b 2) g2.1 g2.2 w)
      clear g1 g2
      generalize sB (a 1) (b 1) = s1 at *
      generalize sB (a 2) (b 2) = s2 at *
      obtain ⟨c, hc⟩ : ∃ c, (FloatKind.f64.format.order s2 s1 == some .gt) = c := ⟨_, rfl⟩
      rw [hc] at HV
      cases c
      all_goals
        go_wp2_with fail
        refine (S1.out _).mono ?_
        rintro e w1 ⟨rfl, hb1⟩
        obtain ⟨hc1, hf1⟩ := bcell hb1
        have HB1 := Lib.hid hb1
        clear hb1
        go_wp2_with fail
        refine (S2.out _).mono ?_
        rintro e w2 ⟨rfl, hb2⟩
        have HB2 := Lib.hid hb2
        clear hb2
        go_wp2_with fail
        go_ret3
        refine ⟨by rw [HV.out]; rfl, ?_⟩
        exact below_two HB1.out HB2.out
    · omega
end Go.Proofs.Ytoopoecopahcbaa.Fl
