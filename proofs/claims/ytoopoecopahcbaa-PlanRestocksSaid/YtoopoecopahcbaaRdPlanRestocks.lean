/- How the arguments of PlanRestocks read, and its pure statement. No condition. -/
import Derived.Test.YtoopoecopahcbaaQPlanRestocksx7
import Derived.Test.YtoopoecopahcbaaRead
namespace Go.Proofs.Ytoopoecopahcbaa.QPlanRestocks
open Go Go.ChangeShapes Go.WideShapes Go.RowKit Go.Proofs.YtoopoecopahcbaaW.PrintWords Go.Proofs.Ytoopoecopahcbaa.Rd
def g24 (x : S24) : Prop := (x.f0.size ≤ 140737488351232) ∧ ((Lit.int .i64 x.f1).wf = true) ∧ ((Lit.int .i64 x.f2).wf = true) ∧ ((Lit.int .i64 x.f3).wf = true) ∧ ((Lit.int .i64 x.f4).wf = true) ∧ ((Lit.int .i64 x.f5).wf = true)
theorem fits24 : fits Try.prog 24 [9, 3, 3, 3, 3, 3] = true := by kernel_rfl
theorem rd24 : Rd Try.prog k24 24 g24 :=
  Rd.iso (Rd.struct fits24 (RdL.cons (Rd.string Try.underlying9) (RdL.cons (Rd.int Try.underlying3) (RdL.cons (Rd.int Try.underlying3) (RdL.cons (Rd.int Try.underlying3) (RdL.cons (Rd.int Try.underlying3) (RdL.one (Rd.int Try.underlying3)))))))) (fun a => ⟨a.1, a.2.1, a.2.2.1, a.2.2.2.1, a.2.2.2.2.1, a.2.2.2.2.2⟩) (fun _ => rfl)
def larderlaw17_PlanRestocks.Pure : Prop := ∀ (l0 : List (S24)), ((∀ y2 ∈ l0, g24 y2) ∧ l0.length * 56 ≤ 140737488351232 ∧ l0.length ≤ maxLen) → ∃ k, larderlaw17_PlanRestocks.f k l0 = some true
end Go.Proofs.Ytoopoecopahcbaa.QPlanRestocks
