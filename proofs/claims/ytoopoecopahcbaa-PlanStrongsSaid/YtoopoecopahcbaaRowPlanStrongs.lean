/- PlanStrongs: the given row. No condition. -/
import Derived.Test.YtoopoecopahcbaaRows
import Derived.Test.YtoopoecopahcbaaPlStrongs
import Derived.Laws.IdiomArrays
import Derived.WalkKit
import Derived.ProofKit
import Derived.OpenShut
import Derived.ShutString
import Derived.ChangeOld
import Derived.Below
import Derived.SizedLaws
namespace Go.Proofs.Ytoopoecopahcbaa.planStrongs
open Go.ChangeShapes Go.WideShapes Go.ChangeAt Go.RowKit Go.Proofs.Ytoopoecopahcbaa.Fl
set_option linter.unusedVariables false
theorem own : ownKnob Try.prog.godebug = none := by kernel_rfl
theorem laidOut : laidOutB Try.prog = true := by kernel_rfl
theorem trod_float {P : Program} {t : TypeId} (ht : P.underlying t = some (.float .f64)) {H : Type} {enc : TypeId × Value → H} {w : World} {fuel : Nat} {c : Value} {x : DataW H × List MemPlace} (h : DataW.trod enc P w 0 (fun _ => true) true fuel t [c] = some x) : ∃ b, c = .float .f64 b ∧ b < 18446744073709551616 := by
  cases fuel with
  | zero => simp [DataW.trod] at h
  | succ n =>
    cases c <;> simp [DataW.trod, ht] at h
    rename_i k b
    obtain ⟨⟨rfl, hw⟩, _⟩ := h
    refine ⟨b, rfl, ?_⟩
    simp only [Lit.wf, decide_eq_true_eq] at hw
    exact Nat.lt_of_lt_of_eq hw (by decide)
theorem four_of {P : Program} {t e : TypeId} (ht : P.underlying t = some (.array 4 e)) (hce : P.cellsOf t = 4) {w : World} {base : Nat} {v : Value} (hv : Value.okWide P w .any base t v) : ∃ c0 c1 c2 c3, v = .agg #[c0, c1, c2, c3] := by
  simp only [Value.okWide, ht] at hv
  obtain ⟨cs, rfl, hc, _⟩ := hv
  rw [hce] at hc
  rcases cs with ⟨l⟩
  match l, hc with
  | [c0, c1, c2, c3], _ => exact ⟨c0, c1, c2, c3, rfl⟩
theorem cells4 : Try.prog.cellsOf 36 = 4 := by kernel_rfl
theorem cells1 : Try.prog.cellsOf 35 = 1 := by kernel_rfl
set_option maxRecDepth 100000 in
theorem open_four {H : Type} {enc : TypeId × Value → H} {w : World} {base : Nat} {v : Value} {d : DataW H} {ps : List MemPlace} (hv : Value.okWide Try.prog w .any base 36 v) (h : DataW.Trod enc Try.prog w 0 (fun _ => true) true 36 v d ps) :
    ∃ a : Nat → Nat, v = .agg #[.float .f64 (a 0), .float .f64 (a 1), .float .f64 (a 2), .float .f64 (a 3)] ∧ ∀ j, a j < 18446744073709551616 := by
  obtain ⟨c0, c1, c2, c3, rfl⟩ := four_of Try.underlying36 cells4 hv
  obtain ⟨fuel, hf⟩ := h
  obtain ⟨y0, y1, y2, y3, n, _, h0, h1, h2, h3⟩ := trod_array4 Try.underlying36 cells1 hf
  obtain ⟨b0, rfl, g0⟩ := trod_float Try.underlying35 h0
  obtain ⟨b1, rfl, g1⟩ := trod_float Try.underlying35 h1
  obtain ⟨b2, rfl, g2⟩ := trod_float Try.underlying35 h2
  obtain ⟨b3, rfl, g3⟩ := trod_float Try.underlying35 h3
  refine ⟨fun j => if j = 0 then b0 else if j = 1 then b1 else if j = 2 then b2 else b3, rfl, fun j => ?_⟩
  show (if j = 0 then b0 else if j = 1 then b1 else if j = 2 then b2 else b3) < _
  split
  · exact g0
  · split
    · exact g1
    · split
      · exact g2
      · exact g3
set_option maxRecDepth 100000 in
theorem lifted (os : Os) (started : os.Started) (H : Type) (enc : TypeId × Value → H) :
    ReturnsInHanded {} Try.checked os 5 .any (Rows.planStrongsSpec.pre6 enc Try.prog Try.f5 Rows.planStrongsRow.domain false) (Rows.planStrongsSpec.post enc Try.prog Try.f5 false true false false) := by
  refine returnsInHanded_of_change_sized (C := Try.checked) own started (by kernel_rfl) Try.func5
    (ChangeSpec.witness6 (enc := enc) (C := Try.checked) false ⟨#[], #[.agg #[.float .f64 0, .float .f64 0, .float .f64 0, .float .f64 0], .agg #[.float .f64 0, .float .f64 0, .float .f64 0, .float .f64 0]], []⟩ 8 (by kernel_rfl) (by kernel_rfl) (by kernel_rfl) (by kernel_rfl)) ?_
  intro W base args ds gs before hval0 hW hcnd hsz0 _
  have hval : ∀ (j : Nat) t v, Try.f5.params[j]? = some t → args[j]? = some v → Value.okWide Try.prog W .any base t v := hval0
  have hW' := hW
  obtain ⟨p, q, hA0, hV, rfl, hfz, hnd⟩ := hW
  have hA : DataW.TrodAll enc Try.prog W 0 (fun _ => true) true Try.f5.params.toList args.toList ds p := hA0
  rw [Try.params5] at hA hval
  obtain ⟨v0, vs0, d0, ds0, p0, q0, hargs, rfl, rfl, h0, r0⟩ := trodAll_cons hA
  obtain ⟨v1, vs1, d1, ds1, p1, q1, rfl, rfl, rfl, h1, r1⟩ := trodAll_cons r0
  obtain ⟨rfl, rfl, rfl⟩ := trodAll_nil r1
  obtain rfl : args = #[v0, v1] := by cases args; simp_all
  obtain ⟨rfl, rfl⟩ := trodVars_none hV
  have k0 := h0
  have lt0 : ∀ x ∈ p0, x.block < W.heap.size := by obtain ⟨m, hm⟩ := k0; exact DataW.trod_lt m _ _ _ hm
  have k1 := h1
  have lt1 : ∀ x ∈ p1, x.block < W.heap.size := by obtain ⟨m, hm⟩ := k1; exact DataW.trod_lt m _ _ _ hm
  obtain ⟨a, rfl, ga⟩ := open_four (hval 0 36 v0 rfl rfl) h0
  obtain ⟨b, rfl, gb⟩ := open_four (hval 1 36 v1 rfl rfl) h1
  clear hA0 hval0 hsz0
  refine (strongs_true a b ga gb W).mono fun e W' hq => ?_
  obtain ⟨rfl, bel⟩ := hq
  exact ⟨_, rfl, _, _, _, [], _, [], hW', trodAll_mk1 (shut_bool Try.underlying4 _), (trodAll_cons_mk (Below.trod laidOut (by kernel_rfl) (of_decide_eq_true (by kernel_rfl)) k0 bel lt0) (trodAll_cons_mk (Below.trod laidOut (by kernel_rfl) (of_decide_eq_true (by kernel_rfl)) k1 bel lt1) trodAll_mk0)), rfl, bel.frame _, fun h => by cases h⟩
theorem over : Rows.planStrongsRow.holds Try.pinned (OpenSpec.ofChange Rows.planStrongsSpec) :=
  OpenClaim.holds_of_wide 5 Try.f5 rfl rfl rfl rfl rfl rfl rfl ⟨rfl, rfl, rfl, rfl, rfl⟩ rfl rfl rfl rfl rfl (by kernel_rfl) Try.func5 (by kernel_rfl)
    (of_decide_eq_true (by kernel_rfl)) (by unfold Func.isWrapper; first | (rw [if_pos (by decide +kernel)]; kernel_rfl) | (rw [if_neg (by decide +kernel)]; exact ⟨rfl, rfl⟩))
    (fun os started H enc _ => lifted os started H enc)
theorem proved : Rows.PlanStrongsSaid := over
#print axioms proved
end Go.Proofs.Ytoopoecopahcbaa.planStrongs
namespace Go.Proofs.Ytoopoecopahcbaa
/-- The row, under a short name, for the claim. -/
theorem planStrongs_holds : Rows.PlanStrongsSaid := planStrongs.proved
end Go.Proofs.Ytoopoecopahcbaa
