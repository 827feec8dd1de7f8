/- math.IsNaN, math.IsInf; plan.Strong and larderref17.Strong. No condition. -/
import Derived.Test.YtoopoecopahcbaaFl
import Derived.Test.YtoopoecopahcbaaProg
import Derived.WalkKit
import Derived.WalkLawsBesides
import Derived.WalkSpells
import Derived.ProofKit
import Derived.Below
import Derived.OpenShut
import Derived.LoopTactic
import Derived.Outline
import Derived.Laws.Externs
import Derived.Laws.Cover3
import Derived.Laws.BitsAllLaws
import Derived.Lib.Hide
namespace Go.Proofs.Ytoopoecopahcbaa.Fl
open Go Go.RowKit Ieee
set_option linter.unusedVariables false
set_option linter.unusedSimpArgs false

theorem order_fmt (a b : Nat) : FloatKind.f64.format.order a b = D.order a b := rfl
theorem isnan_calls (b : Nat) (w : World) : Calls Try.prog 45 #[.float .f64 b] w fun e w' => e = .returned (.bool (D.read b).isNaN) ∧ w = w' := by
  have h : (FloatKind.f64.format.order b b != some .eq) = (D.read b).isNaN := by
    rw [order_fmt, order_self]
    cases (D.read b).isNaN <;> rfl
  generalize (D.read b).isNaN = q at *
  go_enter Try.func45, Try.ntmps45
  go_wp2_with fail
  go_ret
  exact ⟨rfl, rfl⟩
theorem bits_run (b : Nat) (w : World) : (callFunc 83 #[.float .f64 b]).run Try.prog w = .ok (.value (.int .u64 b)) w := by
  rw [run_callFunc_extern Try.func83 (by kernel_rfl) (by kernel_rfl) (by kernel_rfl) (e := Extern.MathFloatBits.float64bits) (by kernel_rfl)]
  rfl
theorem frombits_run (b : Nat) (w : World) : (callFunc 82 #[.int .u64 (b : Int)]).run Try.prog w = .ok (.value (.float .f64 b)) w := by
  rw [run_callFunc_extern Try.func82 (by kernel_rfl) (by kernel_rfl) (by kernel_rfl) (e := Extern.MathFloatBits.float64frombits) (by kernel_rfl)]
  rfl
theorem andnot (b : Nat) (hb : b < 18446744073709551616) : bits .andNot .u64 (b : Int) 9223372036854775808 = ((b % 9223372036854775808 : Nat) : Int) := by
  have h := u64_andNot_nat b 9223372036854775808 hb (by decide)
  rw [show ((9223372036854775808 : Nat) : Int) = 9223372036854775808 from rfl] at h
  rw [h]
  congr 1
  exact Nat.and_two_pow_sub_one_eq_mod b 63
set_option maxRecDepth 100000 in
theorem abs_calls (b : Nat) (hb : b < 18446744073709551616) (w : World) : Calls Try.prog 66 #[.float .f64 b] w fun e w' => e = .returned (.float .f64 (b % 9223372036854775808)) ∧ w = w' := by
  have h1 := bits_run b
  have h2 := andnot b hb
  have h3 := frombits_run (b % 9223372036854775808)
  clear hb
  generalize b % 9223372036854775808 = r at *
  go_enter Try.func66, Try.ntmps66
  go_wp2_with fail
  go_ret
  exact ⟨rfl, rfl⟩
set_option maxRecDepth 100000 in
theorem isinf_calls (b : Nat) (hb : b < 18446744073709551616) (hn : (D.read b).isNaN = false) (w : World) : Calls Try.prog 46 #[.float .f64 b, .int .i64 0] w fun e w' => e = .returned (.bool (!fin b)) ∧ w = w' := by
  have hA := Lib.hid (abs_calls b hb w)
  have h2 := max_order hb hn
  rw [← order_fmt] at h2
  clear hb hn
  generalize b % 9223372036854775808 = r at *
  generalize (!fin b) = q at *
  go_enter Try.func46, Try.ntmps46
  go_wp2_with (first | (go_at_call 66; refine (hA.out).mono ?_; rintro e w1 ⟨rfl, rfl⟩))
  go_ret
  exact ⟨rfl, rfl⟩
theorem sub_run_some (t : TypeId) (b : Nat) (h : fin b = true) (w : World) : (binOp .sub t (.float .f64 b) (.float .f64 b)).run Try.prog w = .ok (.float .f64 0) w :=
  run_float_arith w .sub t .f64 b b 0 (sub_self h)
theorem sub_run_none (t : TypeId) (b : Nat) (h : fin b = false) (w : World) : ∃ r, (binOp .sub t (.float .f64 b) (.float .f64 b)).run Try.prog w = .ok (.float .f64 r) w.drew ∧ (D.read r).isNaN = true := by
  have e : FloatKind.f64.format.sub b b = none := sub_none h
  refine ⟨(Question.nanBits FloatKind.f64 b b).cut (w.tape w.drawn (Question.nanBits FloatKind.f64 b b)), ?_, ?_⟩
  · simp [binOp, Op.floatArith, e, Question.forced]
  · exact nan_bits _
end Go.Proofs.Ytoopoecopahcbaa.Fl
