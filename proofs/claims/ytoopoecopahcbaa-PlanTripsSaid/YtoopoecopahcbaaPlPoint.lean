/- plan.Point and larderref17.Point. No condition. -/
import Derived.Test.YtoopoecopahcbaaFl4
import Derived.Test.YtoopoecopahcbaaPlStrong2
import Derived.Deep.QuietTactic
import Derived.BigQuiet
namespace Go.Proofs.Ytoopoecopahcbaa.Fl
open Go Go.RowKit Ieee
set_option linter.unusedVariables false
set_option linter.unusedSimpArgs false

theorem sqrt_calls (b q : Nat) (h : D.sqrt b = some q) (w : World) : Calls Try.prog 55 #[.float .f64 b] w fun e w' => e = .returned (.float .f64 q) ∧ w' = w := by
  have hr : ∀ w, (callFunc 69 #[.float .f64 b]).run Try.prog w = .ok (.value (.float .f64 q)) w := fun w => by
    rw [run_callFunc_extern Try.func69 (by kernel_rfl) (by kernel_rfl) (by kernel_rfl) (e := Extern.MathSqrt.sqrt) (by kernel_rfl)]
    have h' : FloatKind.f64.format.sqrt b = some q := h
    have e : Extern.MathSqrt.sqrt #[.float .f64 b] = (match FloatKind.f64.format.sqrt b with | some r => pure (.float .f64 r) | none => do pure (.float .f64 (← choose (.nanBits .f64 b b)))) := rfl
    rw [e, h']
    rfl
  clear h
  go_enter Try.func55, Try.ntmps55
  go_wp2_with fail
  go_ret
  exact ⟨rfl, rfl⟩
theorem ceil_calls (b : Nat) (h : (D.read b).isNaN = false) (w : World) : Calls Try.prog 59 #[.float .f64 b] w fun e w' => e = .returned (.float .f64 (D.write ((D.read b).integral .up))) ∧ w' = w := by
  have hr : ∀ w, (callFunc 70 #[.float .f64 b]).run Try.prog w = .ok (.value (.float .f64 (D.write ((D.read b).integral .up)))) w := fun w => by
    rw [run_callFunc_extern Try.func70 (by kernel_rfl) (by kernel_rfl) (by kernel_rfl) (e := Extern.MathFloor.toIntegral "math.archCeil" .up) (by kernel_rfl)]
    have e : Extern.MathFloor.toIntegral "math.archCeil" .up #[.float .f64 b] = (match D.read b with
      | .nan s t => if FloatKind.f64.format.quiet t = t then pure (.float .f64 b) else do
        let kept ← choose (.extern "math.Floor,Ceil,Trunc,RoundToEven.signallingNaN kept" 2)
        pure (.float .f64 (if kept == 1 then b else FloatKind.f64.encode (.nan s (FloatKind.f64.format.quiet t))))
      | d => pure (.float .f64 (FloatKind.f64.encode (d.integral .up)))) := rfl
    rw [e]
    cases hd : D.read b with
    | nan s t => rw [hd] at h; cases h
    | infinity s => rfl
    | number s m i => rfl
  generalize D.write ((D.read b).integral .up) = c at *
  clear h
  go_enter Try.func59, Try.ntmps59
  go_wp2_with fail
  go_ret
  exact ⟨rfl, rfl⟩
def bt (x c : Nat) : Bool := ge0 x && leC x c
theorem between_calls (x c : Nat) (w : World) : Calls Try.prog 58 #[.float .f64 x, .float .f64 c] w fun e w' => e = .returned (.bool (bt x c)) ∧ w = w' := by
  have h1 : (FloatKind.f64.format.order x 0 == some .gt || FloatKind.f64.format.order x 0 == some .eq) = ge0 x := rfl
  have h2 : (FloatKind.f64.format.order x c == some .lt || FloatKind.f64.format.order x c == some .eq) = leC x c := rfl
  unfold bt
  generalize ge0 x = p at *
  generalize leC x c = q at *
  cases p <;> cases q
  all_goals
    go_enter Try.func58, Try.ntmps58
    go_wp2_with fail
    go_ret
    exact ⟨rfl, rfl⟩
theorem pwithin_calls (n lo hi : Int) (w : World) : Calls Try.prog 42 #[.int .i64 n, .int .i64 lo, .int .i64 hi] w fun e w' => e = .returned (.bool (decide (lo ≤ n) && decide (n ≤ hi))) ∧ w = w' := by
  by_cases h1 : lo ≤ n
  · have d1 : decide (n ≥ lo) = true := decide_eq_true h1
    by_cases h2 : n ≤ hi
    · have d2 : decide (n ≤ hi) = true := decide_eq_true h2
      go_enter Try.func42, Try.ntmps42
      go_wp2_with fail
      go_ret
      exact ⟨by simp [h1, h2], rfl⟩
    · have d2 : decide (n ≤ hi) = false := decide_eq_false h2
      go_enter Try.func42, Try.ntmps42
      go_wp2_with fail
      go_ret
      exact ⟨by simp [h1, h2], rfl⟩
  · have d1 : decide (n ≥ lo) = false := decide_eq_false h1
    go_enter Try.func42, Try.ntmps42
    go_wp2_with fail
    go_ret
    exact ⟨by simp [h1], rfl⟩
end Go.Proofs.Ytoopoecopahcbaa.Fl
