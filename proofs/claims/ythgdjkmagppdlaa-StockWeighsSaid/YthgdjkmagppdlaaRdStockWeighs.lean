/- How the arguments of StockWeighs read, and its pure statement. No condition. -/
import Derived.Test.YthgdjkmagppdlaaStkLaw
import Derived.Test.YthgdjkmagppdlaaRead
namespace Go.Proofs.Ythgdjkmagppdlaa.QStockWeighs
open Go Go.ChangeShapes Go.WideShapes Go.RowKit Go.Proofs.YthgdjkmagppdlaaW.PrintWords Go.Proofs.Ythgdjkmagppdlaa.Rd
def g59 (x : S59) : Prop := (x.f0.size ≤ 140737488351232) ∧ ((Lit.int .i64 x.f1).wf = true) ∧ ((Lit.int .i64 x.f2).wf = true)
theorem fits59 : fits Try.prog 59 [9, 3, 3] = true := by kernel_rfl
theorem rd59 : Rd Try.prog k59 59 g59 :=
  Rd.iso (Rd.struct fits59 (RdL.cons (Rd.string Try.underlying9) (RdL.cons (Rd.int Try.underlying3) (RdL.one (Rd.int Try.underlying3))))) (fun a => ⟨a.1, a.2.1, a.2.2⟩) (fun _ => rfl)
def g72 (x : S72) : Prop := (x.f0.size ≤ 140737488351232) ∧ ((Lit.int .i64 x.f1).wf = true)
theorem fits72 : fits Try.prog 72 [9, 3] = true := by kernel_rfl
theorem rd72 : Rd Try.prog k72 72 g72 :=
  Rd.iso (Rd.struct fits72 (RdL.cons (Rd.string Try.underlying9) (RdL.one (Rd.int Try.underlying3)))) (fun a => ⟨a.1, a.2⟩) (fun _ => rfl)
def g61 (x : S61) : Prop := (x.f0.size ≤ 140737488351232) ∧ ((∀ y4 ∈ x.f1, g72 y4) ∧ x.f1.length * 24 ≤ 140737488351232 ∧ x.f1.length ≤ maxLen) ∧ ((Lit.int .i64 x.f2).wf = true)
theorem fits61 : fits Try.prog 61 [9, 27, 3] = true := by kernel_rfl
theorem rd61 : Rd Try.prog k61 61 g61 :=
  Rd.iso (Rd.struct fits61 (RdL.cons (Rd.string Try.underlying9) (RdL.cons (Rd.slice Try.underlying27 (by kernel_rfl) (B := 24) (by kernel_rfl) rd72) (RdL.one (Rd.int Try.underlying3))))) (fun a => ⟨a.1, a.2.1, a.2.2⟩) (fun _ => rfl)
def g29 (x : S29) : Prop := (x.f0.size ≤ 140737488351232) ∧ ((Lit.int .i64 x.f1).wf = true) ∧ ((∀ y4 ∈ x.f2, g72 y4) ∧ x.f2.length * 24 ≤ 140737488351232 ∧ x.f2.length ≤ maxLen) ∧ (x.f3.size ≤ 140737488351232) ∧ ((Lit.int .i64 x.f4).wf = true) ∧ ((Lit.int .i64 x.f5).wf = true)
theorem fits29 : fits Try.prog 29 [9, 3, 27, 9, 3, 3] = true := by kernel_rfl
theorem rd29 : Rd Try.prog k29 29 g29 :=
  Rd.iso (Rd.struct fits29 (RdL.cons (Rd.string Try.underlying9) (RdL.cons (Rd.int Try.underlying3) (RdL.cons (Rd.slice Try.underlying27 (by kernel_rfl) (B := 24) (by kernel_rfl) rd72) (RdL.cons (Rd.string Try.underlying9) (RdL.cons (Rd.int Try.underlying3) (RdL.one (Rd.int Try.underlying3)))))))) (fun a => ⟨a.1, a.2.1, a.2.2.1, a.2.2.2.1, a.2.2.2.2.1, a.2.2.2.2.2⟩) (fun _ => rfl)
def g31 (x : S31) : Prop := (g29 x.f0) ∧ ((Lit.int .i64 x.f1).wf = true)
theorem fits31 : fits Try.prog 31 [29, 3] = true := by kernel_rfl
theorem rd31 : Rd Try.prog k31 31 g31 :=
  Rd.iso (Rd.struct fits31 (RdL.cons rd29 (RdL.one (Rd.int Try.underlying3)))) (fun a => ⟨a.1, a.2⟩) (fun _ => rfl)
structure S26 where
  f0 : Int
  f1 : Int
  f2 : Int
  f3 : List S59
  f4 : List S61
  f5 : List S31
def k26 : Kd S26 := Kd.iso (Kd.pair (Kd.int .i64) (Kd.pair (Kd.int .i64) (Kd.pair (Kd.int .i64) (Kd.pair (Kd.slice 59 k59) (Kd.pair (Kd.slice 61 k61) (Kd.slice 31 k31)))))) (fun x : S26 => (x.f0, x.f1, x.f2, x.f3, x.f4, x.f5))
theorem k26_open {w : World} {x : S26} {cs : List Value} (h : k26.K w x cs) : ∃ A3 c3 A4 c4 A5 c5, cs = [.int .i64 x.f0, .int .i64 x.f1, .int .i64 x.f2, .slice A3 x.f3.length c3, .slice A4 x.f4.length c4, .slice A5 x.f5.length c5] ∧ x.f3.length ≤ c3 ∧ k59.C w A3 x.f3.length x.f3 ∧ x.f4.length ≤ c4 ∧ k61.C w A4 x.f4.length x.f4 ∧ x.f5.length ≤ c5 ∧ k31.C w A5 x.f5.length x.f5 := by
  obtain ⟨_, _, rfl, rfl, _, _, rfl, rfl, _, _, rfl, rfl, _, _, rfl, ⟨A3, c3, rfl, l3, g3⟩, _, _, rfl, ⟨A4, c4, rfl, l4, g4⟩, ⟨A5, c5, rfl, l5, g5⟩⟩ := h
  exact ⟨A3, c3, A4, c4, A5, c5, rfl, l3, g3, l4, g4, l5, g5⟩
def g26 (x : S26) : Prop := ((Lit.int .i64 x.f0).wf = true) ∧ ((Lit.int .i64 x.f1).wf = true) ∧ ((Lit.int .i64 x.f2).wf = true) ∧ ((∀ y4 ∈ x.f3, g59 y4) ∧ x.f3.length * 32 ≤ 140737488351232 ∧ x.f3.length ≤ maxLen) ∧ ((∀ y4 ∈ x.f4, g61 y4) ∧ x.f4.length * 48 ≤ 140737488351232 ∧ x.f4.length ≤ maxLen) ∧ ((∀ y4 ∈ x.f5, g31 y4) ∧ x.f5.length * 88 ≤ 140737488351232 ∧ x.f5.length ≤ maxLen)
theorem fits26 : fits Try.prog 26 [3, 3, 3, 22, 23, 24] = true := by kernel_rfl
theorem rd26 : Rd Try.prog k26 26 g26 :=
  Rd.iso (Rd.struct fits26 (RdL.cons (Rd.int Try.underlying3) (RdL.cons (Rd.int Try.underlying3) (RdL.cons (Rd.int Try.underlying3) (RdL.cons (Rd.slice Try.underlying22 (by kernel_rfl) (B := 32) (by kernel_rfl) rd59) (RdL.cons (Rd.slice Try.underlying23 (by kernel_rfl) (B := 48) (by kernel_rfl) rd61) (RdL.one (Rd.slice Try.underlying24 (by kernel_rfl) (B := 88) (by kernel_rfl) rd31)))))))) (fun a => ⟨a.1, a.2.1, a.2.2.1, a.2.2.2.1, a.2.2.2.2.1, a.2.2.2.2.2⟩) (fun _ => rfl)
def larderlaw12_StockWeighs.Pure : Prop := ∀ (x0 : S26) (x1 : S31), (g26 x0) → (g31 x1) → ∃ k, larderlaw12_StockWeighs.f k x0.f0 x0.f1 x0.f2 x0.f3 x0.f4 x0.f5 x1.f0.f0 x1.f0.f1 x1.f0.f2 x1.f0.f3 x1.f0.f4 x1.f0.f5 x1.f1 = some true
end Go.Proofs.Ythgdjkmagppdlaa.QStockWeighs
