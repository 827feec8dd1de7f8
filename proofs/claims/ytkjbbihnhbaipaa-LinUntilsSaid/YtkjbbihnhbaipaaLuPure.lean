/- The plain laws of Check, Ahead and sameOps. No condition. -/
import Derived.Test.YtkjbbihnhbaipaaPLinUntilsx8
import Derived.Test.YtkjbbihnhbaipaaPLinUntilsx7
namespace Go.Proofs.Ytkjbbihnhbaipaa.Lu
open Go.RowKit Go.Proofs.YtkjbbihnhbaipaaW.PrintWords Go.Proofs.YtkjbbihnhbaipaaW.PrintMore Go.Proofs.Ytkjbbihnhbaipaa.PLinUntils
set_option linter.unusedVariables false
set_option linter.unusedSimpArgs false

theorem w64n (i : Nat) (h : i < 4611686018427387904) : wrap64 ((i : Int) + 1) = ((i + 1 : Nat) : Int) := by
  unfold wrap64
  omega
theorem sameLines_l0 (l : List S40) (hb : l.length ≤ 1125899906842624) : ∀ (n i k : Nat), i + n = l.length → n < k → larderlaw16_sameLines.l0 k l l (i : Int) = some true
  | 0, i, k + 1, h, _ => by unfold larderlaw16_sameLines.l0; rw [if_neg (by omega)]
  | n + 1, i, k + 1, h, hk => by
    unfold larderlaw16_sameLines.l0
    rw [if_pos (by omega), if_pos (by omega), if_pos (by omega), w64n i (by omega), if_neg (by simp)]
    exact sameLines_l0 l hb n (i + 1) k (by omega) (by omega)
theorem sameReply_l0 (x0 : ByteArray) (x1 x2 : Int) (l : List S42) (x4 : Int) (hb : l.length ≤ 1125899906842624) : ∀ (n i k : Nat), i + n = l.length → n < k → larderref12_SameReply.l0 k (i : Int) x0 x1 x2 l x4 x0 x1 x2 l x4 = some true
  | 0, i, k + 1, h, _ => by unfold larderref12_SameReply.l0; rw [if_neg (by omega)]
  | n + 1, i, k + 1, h, hk => by
    unfold larderref12_SameReply.l0
    rw [if_pos (by omega), if_pos (by omega), if_pos (by omega), w64n i (by omega), if_neg (by simp)]
    exact sameReply_l0 x0 x1 x2 l x4 hb n (i + 1) k (by omega) (by omega)
theorem sameReply_f (x0 : ByteArray) (x1 x2 : Int) (l : List S42) (x4 : Int) (hb : l.length ≤ 1125899906842624) (k : Nat) (hk : l.length + 2 < k) : larderref12_SameReply.f k x0 x1 x2 l x4 x0 x1 x2 l x4 = some true := by
  obtain ⟨k, rfl⟩ : ∃ j, k = j + 1 := ⟨k - 1, by omega⟩
  unfold larderref12_SameReply.f
  rw [if_pos rfl, if_pos rfl, if_pos rfl, if_pos rfl, larderref12_SameReply.j0, if_neg (by simp)]
  exact sameReply_l0 x0 x1 x2 l x4 hb l.length 0 k (by omega) (by omega)
theorem sameOps_l0 (l : List S35) (hg : ∀ y ∈ l, y.f0.f2.length * 24 ≤ 140737488351232 ∧ y.f1.f3.length * 32 ≤ 140737488351232) (hb : l.length ≤ 1125899906842624) : ∀ (n i k : Nat), i + n = l.length → n + 1125899906842624 < k → larderlaw16_sameOps.l0 k l l (i : Int) = some true
  | _, _, 0, _, h => absurd h (Nat.not_lt_zero _)
  | 0, i, k + 1, h, _ => by unfold larderlaw16_sameOps.l0; rw [if_neg (by omega)]
  | n + 1, i, k + 1, h, hk => by
    unfold larderlaw16_sameOps.l0
    have hgy := hg (rd_T35 l (i : Int)) (by
      have hy : rd_T35 l (i : Int) = l.getD i z35 := rfl
      rw [hy, List.getD_eq_getElem?_getD, List.getElem?_eq_getElem (by omega)]
      exact List.getElem_mem (by omega))
    rw [if_pos (by omega), if_pos (by omega), if_pos (by omega), w64n i (by omega)]
    generalize rd_T35 l (i : Int) = y at hgy ⊢
    have e1 : larderlaw16_sameLines.f k y.f0.f2 y.f0.f2 = some true := by
      unfold larderlaw16_sameLines.f
      rw [if_pos rfl]
      exact sameLines_l0 y.f0.f2 (by omega) y.f0.f2.length 0 k (by omega) (by omega)
    have e2 := sameReply_f y.f1.f0 y.f1.f1 y.f1.f2 y.f1.f3 y.f1.f4 (by omega) k (by omega)
    have e3 : larderlaw16_sameOp.f k y.f0.f0 y.f0.f1 y.f0.f2 y.f0.f3 y.f0.f4 y.f0.f5 y.f1.f0 y.f1.f1 y.f1.f2 y.f1.f3 y.f1.f4 y.f2 y.f3 y.f4 y.f0.f0 y.f0.f1 y.f0.f2 y.f0.f3 y.f0.f4 y.f0.f5 y.f1.f0 y.f1.f1 y.f1.f2 y.f1.f3 y.f1.f4 y.f2 y.f3 y.f4 = some true := by
      unfold larderlaw16_sameOp.f larderlaw16_sameRequest.f
      rw [if_pos rfl, if_pos rfl, if_pos (by simp), if_pos rfl, if_pos rfl, if_pos rfl, if_pos rfl, if_pos rfl, e1]
      simp only [Option.bind_some, if_true, e2]
    rw [e3]
    simp only [Option.bind_some, if_true]
    exact sameOps_l0 l hg hb n (i + 1) k (by omega) (by omega)
theorem sameOps_self (l : List S35) (hg : ∀ y ∈ l, y.f0.f2.length * 24 ≤ 140737488351232 ∧ y.f1.f3.length * 32 ≤ 140737488351232) (hb : l.length ≤ 1125899906842624) : larderlaw16_sameOps.f (l.length + 1125899906842625) l l = some true := by
  unfold larderlaw16_sameOps.f
  rw [if_pos rfl]
  exact sameOps_l0 l hg hb l.length 0 _ (by omega) (by omega)

theorem both_empty (k : Nat) (x0 : ByteArray) (x1 x2 : Int) (l : List S42) (x4 : Int) : ∃ b, lin_same.f (k + 2) x0 x1 x2 l x4 ⟨#[]⟩ 0 0 [] 0 = some b ∧ larderref12_SameReply.f (k + 2) x0 x1 x2 l x4 ⟨#[]⟩ 0 0 [] 0 = some b := by
  have j1 : ∀ a b c d e f g h i j, larderref12_SameReply.j0 (k + 2) true a b c d e f g h i j = some false := fun _ _ _ _ _ _ _ _ _ _ => by rw [larderref12_SameReply.j0, if_pos rfl]
  unfold lin_same.f larderref12_SameReply.f
  by_cases h0 : x0.toList = (⟨#[]⟩ : ByteArray).toList
  · rw [if_pos h0, if_pos h0]
    by_cases h1 : x1 = 0
    · rw [if_pos h1, if_pos h1]
      by_cases h2 : x2 = 0
      · rw [if_pos h2, if_pos h2]
        by_cases h4 : x4 = 0
        · rw [if_pos h4, if_pos h4]
          cases l with
          | nil =>
            refine ⟨true, ?_, ?_⟩
            · simp [api_Level_28.f, api_Level_28.l0]
            · simp [larderref12_SameReply.j0, larderref12_SameReply.l0]
          | cons y ys =>
            refine ⟨false, ?_, ?_⟩
            · simp [api_Level_28.f]; omega
            · rw [show (((y :: ys).length : Int) != (([] : List S42).length : Int)) = true by simp; omega]; exact j1 _ _ _ _ _ _ _ _ _ _
        · rw [if_neg h4, if_neg h4]; exact ⟨false, rfl, j1 _ _ _ _ _ _ _ _ _ _⟩
      · rw [if_neg h2, if_neg h2]; exact ⟨false, rfl, j1 _ _ _ _ _ _ _ _ _ _⟩
    · rw [if_neg h1, if_neg h1]; exact ⟨false, rfl, j1 _ _ _ _ _ _ _ _ _ _⟩
  · rw [if_neg h0, if_neg h0]; exact ⟨false, rfl, j1 _ _ _ _ _ _ _ _ _ _⟩

theorem checks_l0 (l : List S35) (hb : l.length ≤ 1125899906842624) : ∀ (n i k : Nat), i + n = l.length → n + n + 4 < k → ∃ r, lin_Check.l0 k l (l.length : Int) (i : Int) = some r ∧ larderref16_Check.l0 k l (i : Int) = some r
  | 0, i, k + 1, h, _ => by rw [lin_Check.l0, larderref16_Check.l0, if_neg (by omega), if_neg (by omega)]; exact ⟨_, rfl, rfl⟩
  | n + 1, i, k + 1, h, hk => by
    obtain ⟨k, rfl⟩ : ∃ j, k = j + 3 := ⟨k - 3, by omega⟩
    rw [show k + 3 + 1 = (k + 3) + 1 from rfl, lin_Check.l0, larderref16_Check.l0]
    have q1 : ((i : Nat) : Int) < (l.length : Int) := by omega
    have q2 : (0 : Int) ≤ (i : Int) := by omega
    rw [if_pos q1, if_pos q2, if_pos q1, if_pos q1, if_pos q2]
    generalize rd_T35 l (i : Int) = y
    by_cases c1 : y.f2 < 0
    · rw [if_pos c1, if_pos c1]
      rw [lin_Check.j1, larderref16_Check.j1]
      rw [if_pos (by simp [c1]), if_pos rfl]
      exact ⟨_, rfl, rfl⟩
    · rw [if_neg c1, if_neg c1]
      by_cases c2 : y.f3 < y.f2
      · rw [if_pos c2, if_pos c2]
        rw [lin_Check.j1, larderref16_Check.j1]
        rw [if_pos (by simp [c2]), if_pos rfl]
        exact ⟨_, rfl, rfl⟩
      · rw [if_neg c2, if_neg c2]
        rw [lin_Check.j1, larderref16_Check.j1]
        by_cases c3 : y.f3 > 4611686018427387904
        · rw [if_pos (by simpa using c3), if_pos (by simpa using c3)]
          exact ⟨_, rfl, rfl⟩
        · have d3 : decide (y.f3 > 4611686018427387904) = false := by simpa using c3
          simp only [d3, Bool.false_eq_true, if_false]
          obtain ⟨b, e1, e2⟩ := both_empty k y.f1.f0 y.f1.f1 y.f1.f2 y.f1.f3 y.f1.f4
          rw [e1, e2]
          simp only [Option.bind_some]
          rw [w64n i (by omega)]
          by_cases c4 : y.f4 = true
          · rw [if_pos c4, if_pos c4]
            by_cases c5 : b = true
            · rw [if_pos c5, if_pos c5]
              exact checks_l0 l hb n (i + 1) (k + 2) (by omega) (by omega)
            · rw [if_neg c5, if_neg c5]
              exact ⟨_, rfl, rfl⟩
          · rw [if_neg c4, if_neg c4]
            exact checks_l0 l hb n (i + 1) (k + 2) (by omega) (by omega)
theorem checks (l : List S35) (hb : l.length ≤ 1125899906842624) : ∃ k r1 r2, lin_Check.f k l = some (r1, r2) ∧ larderref16_Check.f k l = some (r1, r2) := by
  refine ⟨l.length + l.length + 5, ?_⟩
  unfold lin_Check.f larderref16_Check.f
  by_cases c : (l.length : Int) > 4096
  · rw [if_pos c, if_pos c]; exact ⟨_, _, rfl, rfl⟩
  · rw [if_neg c, if_neg c]
    obtain ⟨⟨r1, r2⟩, e⟩ := checks_l0 l hb l.length 0 (l.length + l.length + 5) (by omega) (by omega)
    exact ⟨r1, r2, e⟩
end Go.Proofs.Ytkjbbihnhbaipaa.Lu
