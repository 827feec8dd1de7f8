/- How the arguments of LinUntils read, and its pure statement. No condition. -/
import Derived.Test.YtkjbbihnhbaipaaLuLaw
import Derived.Test.YtkjbbihnhbaipaaRead
namespace Go.Proofs.Ytkjbbihnhbaipaa.PLinUntils
open Go Go.ChangeShapes Go.WideShapes Go.RowKit Go.Proofs.YtkjbbihnhbaipaaW.PrintWords Go.Proofs.Ytkjbbihnhbaipaa.Rd
def g40 (x : S40) : Prop := (x.f0.size ≤ 140737488351232) ∧ ((Lit.int .i64 x.f1).wf = true)
theorem fits40 : fits Try.prog 40 [9, 3] = true := by kernel_rfl
theorem rd40 : Rd Try.prog k40 40 g40 :=
  Rd.iso (Rd.struct fits40 (RdL.cons (Rd.string Try.underlying9) (RdL.one (Rd.int Try.underlying3)))) (fun a => ⟨a.1, a.2⟩) (fun _ => rfl)
def g30 (x : S30) : Prop := (x.f0.size ≤ 140737488351232) ∧ ((Lit.int .i64 x.f1).wf = true) ∧ ((∀ y4 ∈ x.f2, g40 y4) ∧ x.f2.length * 24 ≤ 140737488351232 ∧ x.f2.length ≤ maxLen) ∧ (x.f3.size ≤ 140737488351232) ∧ ((Lit.int .i64 x.f4).wf = true) ∧ ((Lit.int .i64 x.f5).wf = true)
theorem fits30 : fits Try.prog 30 [9, 3, 28, 9, 3, 3] = true := by kernel_rfl
theorem rd30 : Rd Try.prog k30 30 g30 :=
  Rd.iso (Rd.struct fits30 (RdL.cons (Rd.string Try.underlying9) (RdL.cons (Rd.int Try.underlying3) (RdL.cons (Rd.slice Try.underlying28 (by kernel_rfl) (B := 24) (by kernel_rfl) rd40) (RdL.cons (Rd.string Try.underlying9) (RdL.cons (Rd.int Try.underlying3) (RdL.one (Rd.int Try.underlying3)))))))) (fun a => ⟨a.1, a.2.1, a.2.2.1, a.2.2.2.1, a.2.2.2.2.1, a.2.2.2.2.2⟩) (fun _ => rfl)
def g42 (x : S42) : Prop := (x.f0.size ≤ 140737488351232) ∧ ((Lit.int .i64 x.f1).wf = true) ∧ ((Lit.int .i64 x.f2).wf = true)
theorem fits42 : fits Try.prog 42 [9, 3, 3] = true := by kernel_rfl
theorem rd42 : Rd Try.prog k42 42 g42 :=
  Rd.iso (Rd.struct fits42 (RdL.cons (Rd.string Try.underlying9) (RdL.cons (Rd.int Try.underlying3) (RdL.one (Rd.int Try.underlying3))))) (fun a => ⟨a.1, a.2.1, a.2.2⟩) (fun _ => rfl)
def g33 (x : S33) : Prop := (x.f0.size ≤ 140737488351232) ∧ ((Lit.int .i64 x.f1).wf = true) ∧ ((Lit.int .i64 x.f2).wf = true) ∧ ((∀ y4 ∈ x.f3, g42 y4) ∧ x.f3.length * 32 ≤ 140737488351232 ∧ x.f3.length ≤ maxLen) ∧ ((Lit.int .i64 x.f4).wf = true)
theorem fits33 : fits Try.prog 33 [9, 24, 3, 31, 3] = true := by kernel_rfl
theorem rd33 : Rd Try.prog k33 33 g33 :=
  Rd.iso (Rd.struct fits33 (RdL.cons (Rd.string Try.underlying9) (RdL.cons (Rd.int Try.underlying24) (RdL.cons (Rd.int Try.underlying3) (RdL.cons (Rd.slice Try.underlying31 (by kernel_rfl) (B := 32) (by kernel_rfl) rd42) (RdL.one (Rd.int Try.underlying3))))))) (fun a => ⟨a.1, a.2.1, a.2.2.1, a.2.2.2.1, a.2.2.2.2⟩) (fun _ => rfl)
def g35 (x : S35) : Prop := (g30 x.f0) ∧ (g33 x.f1) ∧ ((Lit.int .i64 x.f2).wf = true) ∧ ((Lit.int .i64 x.f3).wf = true) ∧ (True)
theorem fits35 : fits Try.prog 35 [30, 33, 3, 3, 4] = true := by kernel_rfl
theorem rd35 : Rd Try.prog k35 35 g35 :=
  Rd.iso (Rd.struct fits35 (RdL.cons rd30 (RdL.cons rd33 (RdL.cons (Rd.int Try.underlying3) (RdL.cons (Rd.int Try.underlying3) (RdL.one (Rd.bool Try.underlying4))))))) (fun a => ⟨a.1, a.2.1, a.2.2.1, a.2.2.2.1, a.2.2.2.2⟩) (fun _ => rfl)

end Go.Proofs.Ytkjbbihnhbaipaa.PLinUntils
