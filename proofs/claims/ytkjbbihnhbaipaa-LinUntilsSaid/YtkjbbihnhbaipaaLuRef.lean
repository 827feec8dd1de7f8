/- larderref16.Until answers as lin.Until. No condition. -/
import Derived.Test.YtkjbbihnhbaipaaLuUntil
import Derived.Test.YtkjbbihnhbaipaaLuPure
import Derived.Test.YtkjbbihnhbaipaaPLinUntilsx8
namespace Go.Proofs.Ytkjbbihnhbaipaa.Lu
open Go.RowKit Go.Proofs.YtkjbbihnhbaipaaW.PrintWords Go.Proofs.YtkjbbihnhbaipaaW.PrintLast Go.Proofs.YtkjbbihnhbaipaaW.PrintMore Go.Proofs.Ytkjbbihnhbaipaa.Mk Go.Proofs.Ytkjbbihnhbaipaa.PLinUntils
set_option linter.unusedVariables false
set_option linter.unusedSimpArgs false

theorem untilF_cons (m : Int) (y : S35) (ys : List S35) : untilF m (y :: ys) = if y.f2 ≤ m then untilOne m y :: untilF m ys else untilF m ys := by
  unfold untilF
  by_cases h : y.f2 ≤ m
  · rw [if_pos h, List.filter_cons_of_pos (by simpa using h)]; rfl
  · rw [if_neg h, List.filter_cons_of_neg (by simpa using h)]
theorem untilF_mem {m : Int} {l : List S35} {x : S35} (h : x ∈ untilF m l) : ∃ y ∈ l, x = untilOne m y := by
  unfold untilF at h
  obtain ⟨y, hy, e⟩ := List.mem_map.1 h
  exact ⟨y, (List.mem_filter.1 hy).1, e.symm⟩
theorem untilF_good {m : Int} {l : List S35} (hg : ∀ y ∈ l, y.f0.f2.length * 24 ≤ 140737488351232 ∧ y.f1.f3.length * 32 ≤ 140737488351232) : ∀ y ∈ untilF m l, y.f0.f2.length * 24 ≤ 140737488351232 ∧ y.f1.f3.length * 32 ≤ 140737488351232 := by
  intro x hx
  obtain ⟨y, hy, rfl⟩ := untilF_mem hx
  have := hg y hy
  unfold untilOne
  split
  · exact ⟨this.1, by simp⟩
  · exact this

theorem refUntil_l0 (l : List S35) (m : Int) (hg : ∀ y ∈ l, y.f0.f2.length * 24 ≤ 140737488351232 ∧ y.f1.f3.length * 32 ≤ 140737488351232) (hb : l.length * 168 ≤ 140737488351232) : ∀ (n i k : Nat) (acc : List S35), i + n = l.length → n < k → acc.length ≤ i → larderref16_Until.l0 k l m acc (i : Int) = some (acc ++ untilF m (l.drop i))
  | 0, i, k + 1, acc, h, _, _ => by
    rw [larderref16_Until.l0, if_neg (by omega), List.drop_of_length_le (by omega)]
    simp [untilF]
  | n + 1, i, k + 1, acc, h, hk, ha => by
    have hi : i < l.length := by omega
    have hy : rd_T35 l (i : Int) = l[i] := by
      have hy : rd_T35 l (i : Int) = l.getD i z35 := rfl
      rw [hy, List.getD_eq_getElem?_getD, List.getElem?_eq_getElem hi]; rfl
    have hgy := hg l[i] (List.getElem_mem hi)
    rw [larderref16_Until.l0, if_pos (by omega), if_pos (by omega), hy, List.drop_eq_getElem_cons hi, untilF_cons]
    generalize l[i] = y at hgy ⊢
    have e : larderref16_twin.f y.f0.f0 y.f0.f1 y.f0.f2 y.f0.f3 y.f0.f4 y.f0.f5 y.f1.f0 y.f1.f1 y.f1.f2 y.f1.f3 y.f1.f4 y.f2 y.f3 y.f4 = some (y.f0.f0, y.f0.f1, y.f0.f2, y.f0.f3, y.f0.f4, y.f0.f5, y.f1.f0, y.f1.f1, y.f1.f2, y.f1.f3, y.f1.f4, y.f2, y.f3, y.f4) := by
      unfold larderref16_twin.f
      rw [if_pos (by simp only [List.length_nil]; omega), if_pos (by simp only [List.length_nil]; omega)]
      simp only [List.nil_append]
    rw [e]
    simp only [Option.bind_some]
    rw [w64n i (by omega)]
    by_cases c1 : y.f2 > m
    · rw [if_pos c1, if_neg (by omega)]
      exact refUntil_l0 l m hg hb n (i + 1) k acc (by omega) (by omega) (by omega)
    · rw [if_neg c1, if_pos (show y.f2 ≤ m by omega)]
      by_cases c2 : y.f3 > m
      · rw [if_pos c2, if_pos (show acc.length < 837723144972 by omega), refUntil_l0 l m hg hb n (i + 1) k _ (by omega) (by omega) (by simp; omega)]
        unfold untilOne
        rw [if_pos c2, List.append_assoc]
        rfl
      · rw [if_neg c2, if_pos (show acc.length < 837723144972 by omega), refUntil_l0 l m hg hb n (i + 1) k _ (by omega) (by omega) (by simp; omega)]
        unfold untilOne
        rw [if_neg c2, List.append_assoc]
        rfl
theorem untils (l : List S35) (m : Int) (hg : ∀ y ∈ l, y.f0.f2.length * 24 ≤ 140737488351232 ∧ y.f1.f3.length * 32 ≤ 140737488351232) (hb : l.length * 168 ≤ 140737488351232) :
    ∃ k r1 r2, lin_Check.f k l = some (r1, r2) ∧ larderref16_Until.f k l m = some (if r1 = 0 then untilF m l else []) := by
  obtain ⟨k, r1, r2, h1, h2⟩ := checks l (by omega)
  refine ⟨k + (l.length + 1), r1, r2, more_rounds (g := fun k => lin_Check.f k l) (fun k => lin_Check.mono l k) k (l.length + 1) _ h1, ?_⟩
  unfold larderref16_Until.f
  rw [more_rounds (g := fun k => larderref16_Check.f k l) (fun k => larderref16_Check.mono l k) k (l.length + 1) _ h2]
  simp only [Option.bind_some]
  by_cases c : r1 = 0
  · rw [if_pos c, if_pos c]
    exact refUntil_l0 l m hg hb l.length 0 (k + (l.length + 1)) [] (by omega) (by omega) (Nat.le_refl _)
  · rw [if_neg c, if_neg c]
end Go.Proofs.Ytkjbbihnhbaipaa.Lu
