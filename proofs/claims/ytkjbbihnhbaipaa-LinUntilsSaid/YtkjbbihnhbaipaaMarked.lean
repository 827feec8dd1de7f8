/- Rows with a mark behind them: the kind of a slice that lies in a row with one element more, the mark; and how such rows read. No condition. -/
import Derived.Test.YtkjbbihnhbaipaaWWords
namespace Go.Proofs.Ytkjbbihnhbaipaa.Mk
open Go.RowKit Go.Proofs.YtkjbbihnhbaipaaW.PrintWords

section
variable {α : Type}
/-- A slice behind which a mark stands. -/
def marked (d : Kd α) (e : Nat) (mk : α → Prop) : Kd (List α) where
  sz := 1
  E := e :: d.E
  K := fun w xs cs => ∃ A c z, cs = [.slice A xs.length c] ∧ xs.length + 1 ≤ c ∧ mk z ∧ d.C w A (xs ++ [z]).length (xs ++ [z])
  M := fun w base ok xs cs => ∃ A c z, cs = [.slice A xs.length c] ∧ xs.length + 1 ≤ c ∧ mk z ∧ d.R e w base ok (.slice A (xs ++ [z]).length c) (xs ++ [z])
  K_len := by rintro w x cs ⟨A, c, z, rfl, _⟩; rfl
  K_one := by
    rintro w x cs ⟨A, c, z, rfl, _⟩ u hu
    simp at hu
    subst hu
    rfl
  K_below := by
    rintro w w1 x cs hb ⟨A, c, z, rfl, hc, hz, h⟩
    exact ⟨A, c, z, rfl, hc, hz, Kd.C_below h hb⟩
  K_of_M := by
    rintro w base ok x cs ⟨A, c, z, rfl, hc, hz, h⟩
    exact ⟨A, c, z, rfl, hc, hz, (Kd.R_reads' h).2.2⟩
  M_mono := by
    rintro w base ok ok' x cs hok ⟨A, c, z, rfl, hc, hz, h⟩
    exact ⟨A, c, z, rfl, hc, hz, Kd.R_mono h hok⟩
  M_bound := by
    rintro w base ok x cs ⟨A, c, z, rfl, hc, hz, h⟩
    exact ⟨A, c, z, rfl, hc, hz, Kd.R_bound h⟩
  M_move := by
    rintro w w1 base ok x cs hm ⟨A, c, z, rfl, hc, hz, h⟩
    exact ⟨A, c, z, rfl, hc, hz, Kd.R_move h hm⟩
  M_lower := by
    rintro w base base' ok x cs hb ⟨A, c, z, rfl, hc, hz, h⟩
    exact ⟨A, c, z, rfl, hc, hz, Kd.R_lower h hb⟩

theorem C_imp {d d' : Kd α} {w : World} {A : Option Addr} {n : Nat} {xs : List α} (hs : d.sz = d'.sz) (hK : ∀ x cs, d.K w x cs → d'.K w x cs) (h : d.C w A n xs) : d'.C w A n xs := by
  obtain ⟨h1, h2, h3⟩ := h
  refine ⟨h1, h2, fun hp => ?_⟩
  obtain ⟨ad, e, hc⟩ := h3 hp
  refine ⟨ad, e, fun j p hj => ?_⟩
  obtain ⟨c, hl, hk, hcell⟩ := hc j p hj
  exact ⟨c, by rw [hl, hs], hK _ _ hk, by rw [← hs]; exact hcell⟩
theorem C_front {d : Kd α} {w : World} {A : Option Addr} {xs ys : List α} (h : d.C w A (xs ++ ys).length (xs ++ ys)) : d.C w A xs.length xs := by
  obtain ⟨h1, h2, h3⟩ := h
  rw [List.length_append] at h2
  refine ⟨rfl, by omega, fun hp => ?_⟩
  obtain ⟨ad, e, hc⟩ := h3 (by rw [List.length_append]; omega)
  refine ⟨ad, e, fun j p hj => hc j p ?_⟩
  rw [List.getElem?_append_left (List.getElem?_eq_some_iff.1 hj).1]
  exact hj
theorem marked_slice {d : Kd α} {e : Nat} {mk : α → Prop} {w : World} {xs : List α} {cs : List Value} (h : (marked d e mk).K w xs cs) : (Kd.slice e d).K w xs cs := by
  obtain ⟨A, c, z, rfl, hc, _, hC⟩ := h
  exact ⟨A, c, rfl, by omega, C_front hC⟩
end
end Go.Proofs.Ytkjbbihnhbaipaa.Mk
