/- Wheel's laws: walked, as a plain contract. No condition. -/
import Derived.Test.YtaefbibkkkglnaaWhEc
namespace Go.Proofs.Ytaefbibkkkglnaa.Wh
open Go Go.RowKit Go.Shelf Go.Proofs.YtaefbibkkkglnaaW.PrintWords Go.Proofs.Ytaefbibkkkglnaa.Fr
set_option linter.unusedVariables false
set_option linter.unusedSimpArgs false
theorem reps_E2 {R : E → List Value → Prop} (hR : ∀ x, R x (encE x)) : ∀ (xs ps : List E) (cs : List Value), Reps R 2 ps cs → Reps R 2 (ps ++ xs) (cs ++ xs.flatMap encE)
  | [], ps, cs, h => by simpa using h
  | x :: xs, ps, cs, h => by
    have := reps_E2 hR xs (ps ++ [x]) (cs ++ encE x) (h.snoc (hR x) rfl)
    simpa [List.append_assoc] using this
theorem reps_E {R : E → List Value → Prop} (hR : ∀ x, R x (encE x)) (xs : List E) : Reps R 2 xs (xs.flatMap encE) := by
  simpa using reps_E2 hR xs [] [] (Reps.none _ _)
theorem R_of_rowE {w : World} {base e : Nat} {v : Value} {xs : List E} (h : w.ownsRow base e 2 v xs.length (xs.flatMap encE)) : kE.R e w base (fun _ => True) v xs :=
  ⟨fun _ _ => trivial, _, h, reps_E (fun _ => kE_M) xs⟩
def walkF (most : Int) (l : List E) : List E := if most < 1 then [] else l.take most.toNat
theorem walkF_le (most : Int) (l : List E) : (walkF most l).length ≤ l.length := by
  unfold walkF
  split
  · simp
  · rw [List.length_take]; omega
theorem walked_calls {w : World} {O : Nat → Prop} {p : Nat} {now : Int} {l : List E} (h : Whl w O p now l) (most : Int) (hm2 : most ≤ 9223372036854775807) :
    Calls Try.prog 20 #[.pointer (some ⟨p, 0, none⟩), .int .i64 most] w fun e w' =>
      ∃ v, e = .returned v ∧ kE.R 46 w' w.heap.size (fun _ => True) v (walkF most l) ∧ Below w.heap.size w w' := by
  unfold walkF
  by_cases hm : most < 1
  · rw [if_pos hm]
    have e1 : decide (most < 1) = true := by simpa using hm
    have hw2 : Whl ((w.alloc (.cells #[.int .i64 most] 3 (0, 0))).alloc (.cells #[.slice none 0 0] 42 (0, 0))) O p now l := (h.below (below_alloc (Below.refl _ _) _)).below (below_alloc (Below.refl _ _) _)
    have HE := Aside0.mk (each_calls hw2)
    clear h hw2 hm
    go_enter Try.func20, Try.ntmps20
    go_wp2_with fail
    refine (HE.out).mono ?_
    rintro e w3 ⟨A, c, rfl, hbox, hsz, hC, hB3⟩
    simp only [World.size_alloc] at hbox hsz hB3 ⊢
    have b3 : Boxed w3 w.heap.size 3 (.int .i64 most) := (hB3.block _ (by omega)).trans ((Boxed.new w 3 _).alloc _)
    have b5 : Boxed w3 (w.heap.size + 1) 42 (.slice none 0 0) := by
      have h := Boxed.new (w.alloc (.cells #[.int .i64 most] 3 (0, 0))) 42 (.slice none 0 0)
      rw [World.size_alloc] at h
      exact (hB3.block _ (by omega)).trans h
    have c3 := b3.cell
    have c5 := b5.cell
    have hB0 : Below w.heap.size w w3 := (below_alloc (below_alloc (Below.refl _ w) _) _).trans (hB3.mono (by omega))
    have hnn := each_nn (w.heap.size + 1 + 1) w3
    go_wp2_with fail
    go_ret
    exact ⟨_, rfl, Kd.R_nil _ _ _ _ _, hB0⟩
  · rw [if_neg hm]
    refine (callsIn_wide.1 (walked_main h most (by omega) hm2)).mono ?_
    rintro e w' ⟨v, rfl, h1, h2⟩
    exact ⟨v, rfl, R_of_rowE h1, h2⟩
end Go.Proofs.Ytaefbibkkkglnaa.Wh
