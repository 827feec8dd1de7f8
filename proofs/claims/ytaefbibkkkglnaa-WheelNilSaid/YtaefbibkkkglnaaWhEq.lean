/- Equality of seven ints. No condition. -/
import Derived.Test.YtaefbibkkkglnaaWhY
import Derived.Laws.StructEq
namespace Go.Proofs.Ytaefbibkkkglnaa.Wh
open Go Go.RowKit Go.Proofs.YtaefbibkkkglnaaW.PrintWords
set_option linter.unusedVariables false
set_option linter.unusedSimpArgs false
section
variable (w : World) (a0 a1 a2 a3 a4 a5 a6 : Int)
theorem part7_0 : (part 3 #[.int .i64 a0, .int .i64 a1, .int .i64 a2, .int .i64 a3, .int .i64 a4, .int .i64 a5, .int .i64 a6] 0).run Try.prog w = .ok (.int .i64 a0) w := by kernel_rfl
theorem part7_1 : (part 3 #[.int .i64 a0, .int .i64 a1, .int .i64 a2, .int .i64 a3, .int .i64 a4, .int .i64 a5, .int .i64 a6] 1).run Try.prog w = .ok (.int .i64 a1) w := by kernel_rfl
theorem part7_2 : (part 3 #[.int .i64 a0, .int .i64 a1, .int .i64 a2, .int .i64 a3, .int .i64 a4, .int .i64 a5, .int .i64 a6] 2).run Try.prog w = .ok (.int .i64 a2) w := by kernel_rfl
theorem part7_3 : (part 3 #[.int .i64 a0, .int .i64 a1, .int .i64 a2, .int .i64 a3, .int .i64 a4, .int .i64 a5, .int .i64 a6] 3).run Try.prog w = .ok (.int .i64 a3) w := by kernel_rfl
theorem part7_4 : (part 3 #[.int .i64 a0, .int .i64 a1, .int .i64 a2, .int .i64 a3, .int .i64 a4, .int .i64 a5, .int .i64 a6] 4).run Try.prog w = .ok (.int .i64 a4) w := by kernel_rfl
theorem part7_5 : (part 3 #[.int .i64 a0, .int .i64 a1, .int .i64 a2, .int .i64 a3, .int .i64 a4, .int .i64 a5, .int .i64 a6] 5).run Try.prog w = .ok (.int .i64 a5) w := by kernel_rfl
theorem part7_6 : (part 3 #[.int .i64 a0, .int .i64 a1, .int .i64 a2, .int .i64 a3, .int .i64 a4, .int .i64 a5, .int .i64 a6] 6).run Try.prog w = .ok (.int .i64 a6) w := by kernel_rfl
end
theorem size_i (w : World) : (sizeOf 3).run Try.prog w = .ok 1 w := by kernel_rfl
theorem eq7d (d : Nat) (w : World) (a0 a1 a2 a3 a4 a5 a6 b0 b1 b2 b3 b4 b5 b6 : Int) (he : ∀ (a b : Int) (w : World), (Op.equalIn d 3 (.int .i64 a) (.int .i64 b)).run Try.prog w = .ok (a == b) w) :
    (Op.equalIn (d + 1) 36 (.agg #[.int .i64 a0, .int .i64 a1, .int .i64 a2, .int .i64 a3, .int .i64 a4, .int .i64 a5, .int .i64 a6]) (.agg #[.int .i64 b0, .int .i64 b1, .int .i64 b2, .int .i64 b3, .int .i64 b4, .int .i64 b5, .int .i64 b6])).run Try.prog w = .ok (a0 == b0 && (a1 == b1 && (a2 == b2 && (a3 == b3 && (a4 == b4 && (a5 == b5 && a6 == b6)))))) w := by
  have pa0 := fun w => part7_0 w a0 a1 a2 a3 a4 a5 a6
  have pa1 := fun w => part7_1 w a0 a1 a2 a3 a4 a5 a6
  have pa2 := fun w => part7_2 w a0 a1 a2 a3 a4 a5 a6
  have pa3 := fun w => part7_3 w a0 a1 a2 a3 a4 a5 a6
  have pa4 := fun w => part7_4 w a0 a1 a2 a3 a4 a5 a6
  have pa5 := fun w => part7_5 w a0 a1 a2 a3 a4 a5 a6
  have pa6 := fun w => part7_6 w a0 a1 a2 a3 a4 a5 a6
  have pb0 := fun w => part7_0 w b0 b1 b2 b3 b4 b5 b6
  have pb1 := fun w => part7_1 w b0 b1 b2 b3 b4 b5 b6
  have pb2 := fun w => part7_2 w b0 b1 b2 b3 b4 b5 b6
  have pb3 := fun w => part7_3 w b0 b1 b2 b3 b4 b5 b6
  have pb4 := fun w => part7_4 w b0 b1 b2 b3 b4 b5 b6
  have pb5 := fun w => part7_5 w b0 b1 b2 b3 b4 b5 b6
  have pb6 := fun w => part7_6 w b0 b1 b2 b3 b4 b5 b6
  have hs := size_i w
  simp only [Op.equalIn, Sem.run_bind, run_underlying Try.underlying36, Result.andThen_ok, hs]
  rw [Std.Legacy.Range.forIn_eq_forIn_range']
  rw [show List.range' ([:7] : Std.Legacy.Range).start ([:7] : Std.Legacy.Range).size ([:7] : Std.Legacy.Range).step = [0, 1, 2, 3, 4, 5, 6] from rfl]
  simp only [List.forIn_cons, List.forIn_nil, Sem.run_bind, Sem.run_ite, Sem.run_pure, Result.andThen_ok, Nat.zero_mul, Nat.mul_one, pa0, pb0, pa1, pb1, pa2, pb2, pa3, pb3, pa4, pb4, pa5, pb5, pa6, pb6, he]
  cases a0 == b0
  · rfl
  simp only [Bool.not_true, Bool.false_eq_true, if_false, Bool.true_and, Sem.run_pure, Result.andThen_ok, Sem.run_bind, Sem.run_ite, pa0, pb0, pa1, pb1, pa2, pb2, pa3, pb3, pa4, pb4, pa5, pb5, pa6, pb6, he]
  cases a1 == b1
  · rfl
  simp only [Bool.not_true, Bool.false_eq_true, if_false, Bool.true_and, Sem.run_pure, Result.andThen_ok, Sem.run_bind, Sem.run_ite, pa0, pb0, pa1, pb1, pa2, pb2, pa3, pb3, pa4, pb4, pa5, pb5, pa6, pb6, he]
  cases a2 == b2
  · rfl
  simp only [Bool.not_true, Bool.false_eq_true, if_false, Bool.true_and, Sem.run_pure, Result.andThen_ok, Sem.run_bind, Sem.run_ite, pa0, pb0, pa1, pb1, pa2, pb2, pa3, pb3, pa4, pb4, pa5, pb5, pa6, pb6, he]
  cases a3 == b3
  · rfl
  simp only [Bool.not_true, Bool.false_eq_true, if_false, Bool.true_and, Sem.run_pure, Result.andThen_ok, Sem.run_bind, Sem.run_ite, pa0, pb0, pa1, pb1, pa2, pb2, pa3, pb3, pa4, pb4, pa5, pb5, pa6, pb6, he]
  cases a4 == b4
  · rfl
  simp only [Bool.not_true, Bool.false_eq_true, if_false, Bool.true_and, Sem.run_pure, Result.andThen_ok, Sem.run_bind, Sem.run_ite, pa0, pb0, pa1, pb1, pa2, pb2, pa3, pb3, pa4, pb4, pa5, pb5, pa6, pb6, he]
  cases a5 == b5
  · rfl
  simp only [Bool.not_true, Bool.false_eq_true, if_false, Bool.true_and, Sem.run_pure, Result.andThen_ok, Sem.run_bind, Sem.run_ite, pa0, pb0, pa1, pb1, pa2, pb2, pa3, pb3, pa4, pb4, pa5, pb5, pa6, pb6, he]
  cases a6 == b6
  · rfl
  simp only [Bool.not_true, Bool.false_eq_true, if_false, Bool.true_and, Sem.run_pure, Result.andThen_ok, Sem.run_bind, Sem.run_ite, pa0, pb0, pa1, pb1, pa2, pb2, pa3, pb3, pa4, pb4, pa5, pb5, pa6, pb6, he]
theorem eq7 (w : World) (a0 a1 a2 a3 a4 a5 a6 b0 b1 b2 b3 b4 b5 b6 : Int) :
    (Op.equalIn 10000 36 (.agg #[.int .i64 a0, .int .i64 a1, .int .i64 a2, .int .i64 a3, .int .i64 a4, .int .i64 a5, .int .i64 a6]) (.agg #[.int .i64 b0, .int .i64 b1, .int .i64 b2, .int .i64 b3, .int .i64 b4, .int .i64 b5, .int .i64 b6])).run Try.prog w = .ok (a0 == b0 && (a1 == b1 && (a2 == b2 && (a3 == b3 && (a4 == b4 && (a5 == b5 && a6 == b6)))))) w :=
  eq7d 9999 w _ _ _ _ _ _ _ _ _ _ _ _ _ _ (fun a b w => run_equalIn_int w 9998 3 .i64 .i64 a b Try.underlying3)
theorem eq7_same (c : Nat → Nat) (w : World) : (Op.equalIn 10000 36 (sprV c) (sprV c)).run Try.prog w = .ok true w := by
  unfold sprV
  rw [eq7]
  simp
end Go.Proofs.Ytaefbibkkkglnaa.Wh
