/- Wheel: Each of a nil wheel. No condition. -/
import Derived.Test.YtaefbibkkkglnaaWhEd
import Derived.Test.YtaefbibkkkglnaaWhKa
namespace Go.Proofs.Ytaefbibkkkglnaa.Wh
open Go Go.RowKit Go.Proofs.YtaefbibkkkglnaaW.PrintWords Go.Proofs.Ytaefbibkkkglnaa.Mp Go.Proofs.Ytaefbibkkkglnaa.Fr
set_option linter.unusedVariables false
set_option linter.unusedSimpArgs false
theorem nil_each (w : World) : Calls Try.prog 19 #[.pointer none] w fun e w' =>
    e = .returned (.func (.func 39) #[] #[.pointer (some ⟨w.heap.size, 0, none⟩)]) ∧ w'.cell? ⟨w.heap.size, 0, none⟩ = some (.slice none 0 0) ∧ w.heap.size < w'.heap.size ∧ Below w.heap.size w w' := by
  have HS := Aside0.mk (fun w => AnyF.slices_SortFunc_none (P := Try.prog) (ρ := Try.sortP_ren) Try.sortP none 0 (.func (.func 36) #[] #[]) w)
  go_enter Try.func19, Try.ntmps19
  go_wp2_with fail
  refine (HS.out _).mono ?_
  rintro e w' ⟨rfl, rfl⟩
  go_wp2_with fail
  go_ret
  refine ⟨rfl, blk_cell (heap_alloc_new w _) 0, by rw [World.size_alloc]; omega, below_alloc (Below.refl _ _) _⟩
theorem fill_one : fillL 0 [4] 1 = [(⟨#[97, 97, 97]⟩, 5)] := by
  have h1 : nm 0 = ⟨#[97, 97, 97]⟩ := by decide
  have h2 : farT 0 [4] 0 = 5 := by decide
  show putF (nm 0, farT 0 [4] 0) [] = _
  rw [h1, h2]
  rfl
theorem told_one : (toldF 5 [((⟨#[97, 97, 97]⟩ : ByteArray), (5 : Int))]).map Prod.fst = [⟨#[97, 97, 97]⟩] := by decide
end Go.Proofs.Ytaefbibkkkglnaa.Wh
