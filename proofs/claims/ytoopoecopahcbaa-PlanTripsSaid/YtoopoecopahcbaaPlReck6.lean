/- ints, numbers, quarters of equal lists. No condition. -/
import Derived.Test.YtoopoecopahcbaaPlReck5
import Derived.Deep.QuietTactic
import Derived.BigQuiet
namespace Go.Proofs.Ytoopoecopahcbaa.Fl
open Go Go.RowKit Ieee Go.Proofs.YtoopoecopahcbaaW.PrintWords Go.Proofs.YtoopoecopahcbaaW.PrintLast Go.Proofs.YtoopoecopahcbaaW.PrintMore
set_option linter.unusedVariables false
set_option linter.unusedSimpArgs false

theorem number_same (r : Nat) (w : World) : Calls Try.prog 20 #[.float .f64 r, .float .f64 r] w fun e w' => e = .returned (.bool true) ∧ w' = w := by
  have h : ((FloatKind.f64.format.order r r == some .eq) = true ∧ (FloatKind.f64.format.order r r != some .eq) = false) ∨ ((FloatKind.f64.format.order r r == some .eq) = false ∧ (FloatKind.f64.format.order r r != some .eq) = true) := by
    rw [order_fmt, order_self]
    cases (D.read r).isNaN
    · exact .inl ⟨rfl, rfl⟩
    · exact .inr ⟨rfl, rfl⟩
  rcases h with ⟨h1, h2⟩ | ⟨h1, h2⟩
  all_goals
    go_enter Try.func20, Try.ntmps20
    go_wp2_with fail
    go_ret
    exact ⟨rfl, rfl⟩

set_option maxRecDepth 100000 in
set_option maxHeartbeats 4000000 in
theorem ints_calls (A B : Option Addr) (c d : Nat) (xs : List Int) (w : World) (ha : Kd.C (Kd.int .i64) w A xs.length xs) (hb : Kd.C (Kd.int .i64) w B xs.length xs) (hc : xs.length ≤ c) (hd : xs.length ≤ d) (hl : xs.length < 4611686018427387904) :
    Calls Try.prog 23 #[.slice A xs.length c, .slice B xs.length d] w fun e w' => e = .returned (.bool true) ∧ Below w.heap.size w w' := by
  have HA := Aside0.mk ha
  have HB := Aside0.mk hb
  clear ha hb
  go_enter Try.func23, Try.ntmps23
  go_wp2_with fail
  go_loopw [4, 5] (fun v4 v5 wr => ∃ k : Nat, k ≤ xs.length ∧ v5 = .int .i64 k ∧ Aside0 (Below w.heap.size w wr)) (fun _ v5 _ => xs.length - (intOf v5).toNat)
  case atStart => exact ⟨0, Nat.zero_le _, rfl, ⟨Below.refl _ _⟩⟩
  case round =>
    obtain ⟨k, hk, rfl, B5⟩ := hrel
    by_cases hlt : k < xs.length
    · obtain ⟨ad, eA, hcA⟩ := at_num (Kd.C_below HA.out B5.out) k hlt
      obtain ⟨bd, eB, hcB⟩ := at_num (Kd.C_below HB.out B5.out) k hlt
      generalize xs[k] = s at *
      subst eA eB
      have i0 : (0 : Int) ≤ (k : Int) := by omega
      have i1 : (k : Int) < (xs.length : Int) := by omega
      have d1 : (s != s) = false := by simp
      go_wp2_with fail
      go_quiet (fail)
      go_wp2_with fail
      go_roundw
      case rel => exact ⟨k + 1, by omega, by go_num, ⟨by first | exact B5.out | exact pw_below_drewN B5.out _⟩⟩
      case measure => simp [intOf]; omega
    · obtain rfl : k = xs.length := by omega
      go_wp2_with fail
      go_ret
      exact ⟨rfl, B5.out⟩

set_option maxRecDepth 100000 in
set_option maxHeartbeats 4000000 in
theorem numbers_calls (A B : Option Addr) (c d : Nat) (xs : List Nat) (w : World) (ha : Kd.C kF w A xs.length xs) (hb : Kd.C kF w B xs.length xs) (hc : xs.length ≤ c) (hd : xs.length ≤ d) (hl : xs.length < 4611686018427387904) :
    Calls Try.prog 33 #[.slice A xs.length c, .slice B xs.length d] w fun e w' => e = .returned (.bool true) ∧ Below w.heap.size w w' := by
  have HA := Aside0.mk ha
  have HB := Aside0.mk hb
  clear ha hb
  go_enter Try.func33, Try.ntmps33
  go_wp2_with fail
  go_loopw [4, 5] (fun v4 v5 wr => ∃ k : Nat, k ≤ xs.length ∧ v5 = .int .i64 k ∧ Aside0 (Below w.heap.size w wr)) (fun _ v5 _ => xs.length - (intOf v5).toNat)
  case atStart => exact ⟨0, Nat.zero_le _, rfl, ⟨Below.refl _ _⟩⟩
  case round =>
    obtain ⟨k, hk, rfl, B5⟩ := hrel
    by_cases hlt : k < xs.length
    · obtain ⟨ad, eA, hcA⟩ := at_fl (Kd.C_below HA.out B5.out) k xs[k] (List.getElem?_eq_getElem hlt)
      obtain ⟨bd, eB, hcB⟩ := at_fl (Kd.C_below HB.out B5.out) k xs[k] (List.getElem?_eq_getElem hlt)
      generalize xs[k] = s at *
      subst eA eB
      have i0 : (0 : Int) ≤ (k : Int) := by omega
      have i1 : (k : Int) < (xs.length : Int) := by omega
      have HN := Aside0.mk (fun w => number_same s w)
      go_wp2_with fail
      go_quiet ((go_at_call 20; exact Calls.quiet_of_same (HN.out _)))
      go_wp2_with fail
      go_roundw
      case rel => exact ⟨k + 1, by omega, by go_num, ⟨by first | exact B5.out | exact pw_below_drewN B5.out _⟩⟩
      case measure => simp [intOf]; omega
    · obtain rfl : k = xs.length := by omega
      go_wp2_with fail
      go_ret
      exact ⟨rfl, B5.out⟩

set_option maxRecDepth 100000 in
set_option maxHeartbeats 8000000 in
theorem quart_calls (a b : Nat → Nat) (ha : ∀ j, Ok (a j)) (hb : ∀ j, Ok (b j)) (w : World) :
    Calls Try.prog 34 #[.agg #[.complex .f64 (a 0) (b 0), .complex .f64 (a 1) (b 1), .complex .f64 (a 2) (b 2), .complex .f64 (a 3) (b 3)], .agg #[.float .f64 (a 0), .float .f64 (b 0), .float .f64 (a 1), .float .f64 (b 1), .float .f64 (a 2), .float .f64 (b 2), .float .f64 (a 3), .float .f64 (b 3)]] w fun e w' => e = .returned (.bool true) ∧ Below w.heap.size w w' := by
  have g : ∀ r, Ok r → (FloatKind.f64.format.order r r != some .eq) = false := by
    intro r h
    rw [order_fmt, order_self]
    unfold Ok at h
    rw [h]
    rfl
  have a0 := g _ (ha 0)
  have a1 := g _ (ha 1)
  have a2 := g _ (ha 2)
  have a3 := g _ (ha 3)
  have b0 := g _ (hb 0)
  have b1 := g _ (hb 1)
  have b2 := g _ (hb 2)
  have b3 := g _ (hb 3)
  clear g ha hb
  generalize a 0 = p0 at *
  generalize a 1 = p1 at *
  generalize a 2 = p2 at *
  generalize a 3 = p3 at *
  generalize b 0 = q0 at *
  generalize b 1 = q1 at *
  generalize b 2 = q2 at *
  generalize b 3 = q3 at *
  go_enter Try.func34, Try.ntmps34
  go_wp2_with fail
  go_loopw [4, 5] (fun v4 v5 wr => ∃ k n : Nat, k ≤ 4 ∧ v5 = .int .i64 k ∧ wr = ((w.alloc (.cells #[.complex .f64 p0 q0, .complex .f64 p1 q1, .complex .f64 p2 q2, .complex .f64 p3 q3] 38 (0, 0))).alloc (.cells #[.float .f64 p0, .float .f64 q0, .float .f64 p1, .float .f64 q1, .float .f64 p2, .float .f64 q2, .float .f64 p3, .float .f64 q3] 41 (0, 0))).drewN n) (fun _ v5 _ => 4 - (intOf v5).toNat)
  case atStart => exact ⟨0, 0, by omega, rfl, rfl⟩
  case round =>
    obtain ⟨k, n, hk, rfl, rfl⟩ := hrel
    rcases k with _ | _ | _ | _ | _ | k
    case succ.succ.succ.succ.zero =>
      go_wp2_with fail
      go_ret
      exact ⟨rfl, pw_below_drewN (below_alloc (below_alloc (Below.refl _ _) _) _) _⟩
    case succ.succ.succ.succ.succ => omega
    all_goals
      go_wp2_with fail
      go_quiet (fail)
      go_wp2_with fail
      go_roundw
    case rel => exact ⟨0 + 1, _, by omega, by go_num, rfl⟩
    case measure => simp [intOf]
    case rel => exact ⟨0 + 1 + 1, _, by omega, by go_num, rfl⟩
    case measure => simp [intOf]
    case rel => exact ⟨0 + 1 + 1 + 1, _, by omega, by go_num, rfl⟩
    case measure => simp [intOf]
    case rel => exact ⟨0 + 1 + 1 + 1 + 1, _, by omega, by go_num, rfl⟩
    case measure => simp [intOf]
end Go.Proofs.Ytoopoecopahcbaa.Fl
