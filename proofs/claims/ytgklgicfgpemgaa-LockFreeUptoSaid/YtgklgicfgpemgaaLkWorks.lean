/- Stripes: the contract of 'serves', and that 'works' answers true. No condition. -/
import Derived.Test.YtgklgicfgpemgaaProg
import Derived.Test.YtgklgicfgpemgaaWWords
import Derived.WalkKit
import Derived.Outline
import Derived.EndedHear
import Derived.Laws.MakeOwn
import Derived.Deep.QuietTactic
import Derived.BigQuiet
namespace Go.Proofs.Ytgklgicfgpemgaa.Lk
open Go.RowKit Go.Proofs.YtgklgicfgpemgaaW.PrintWords
set_option linter.unusedVariables false
set_option linter.unusedSimpArgs false

theorem make1 (w : World) : (Instr.makeSlice 54 (.int .i64 1) (.int .i64 1)).run Try.prog w = .ok (.slice (some ⟨w.heap.size, 0, none⟩) 1 1) (w.alloc (.cells #[.int .i64 0, .int .i64 0, .int .i64 0] 60 (0, 0))) := by kernel_rfl

set_option maxRecDepth 100000 in
set_option maxHeartbeats 4000000 in
theorem works_true (w : World) :
    Calls Try.prog 8 #[] w fun e w' => e = .returned (.bool true) ∧ Below w.heap.size w w' := by
  have hmk := make1
  go_enter Try.func8, Try.ntmps8
  go_wp2
  repeat (first | (go_quiet (fail); go_wp2) | (go_end0; go_wp2))
  go_ret
  refine ⟨rfl, ?_⟩
  repeat (first | exact Below.refl _ _ | apply below_alloc | apply pw_below_drewN | apply below_drew1 | refine below_set ?_ (Nat.le_refl _))

set_option maxRecDepth 100000 in
set_option maxHeartbeats 4000000 in
theorem nil_true (w : World) :
    Calls Try.prog 7 #[] w fun e w' => e = .returned (.bool true) ∧ Below w.heap.size w w' := by
  go_enter Try.func7, Try.ntmps7
  go_wp2_with fail
  refine (works_true _).mono ?_
  rintro e w1 ⟨rfl, hb⟩
  go_wp2
  repeat (first | (go_quiet (fail); go_wp2) | (go_end0; go_wp2))
  go_ret
  refine ⟨rfl, ?_⟩
  repeat (first | exact hb | apply below_alloc | apply pw_below_drewN | apply below_drew1)
end Go.Proofs.Ytgklgicfgpemgaa.Lk
