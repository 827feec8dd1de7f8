/- StockWeighs: the given row, out of its pure statement and the contract of the Go function. No condition. -/
import Derived.Test.YthgdjkmagppdlaaRows
import Derived.Test.YthgdjkmagppdlaaRdStockWeighs
import Derived.Test.YthgdjkmagppdlaaPureStockWeighs
import Derived.WalkKit
import Derived.ProofKit
import Derived.OpenShut
import Derived.ShutString
import Derived.ChangeOld
import Derived.Below
import Derived.SizedLaws
namespace Go.Proofs.Ythgdjkmagppdlaa.stockWeighs
open Go.ChangeShapes Go.WideShapes Go.ChangeAt Go.RowKit Go.Proofs.Ythgdjkmagppdlaa.Rd Go.Proofs.Ythgdjkmagppdlaa.QStockWeighs
open Go.ChangeMaps (open_string shut_string)
set_option linter.unusedVariables false
theorem own : ownKnob Try.prog.godebug = none := by kernel_rfl
theorem laidOut : laidOutB Try.prog = true := by kernel_rfl
set_option maxRecDepth 100000 in
theorem lifted (os : Os) (started : os.Started) (H : Type) (enc : TypeId × Value → H) :
    ReturnsInHanded {} Try.checked os 3 .any (Rows.stockWeighsSpec.pre6 enc Try.prog Try.f3 Rows.stockWeighsRow.domain false) (Rows.stockWeighsSpec.post enc Try.prog Try.f3 false true false false) := by
  refine returnsInHanded_of_change_sized (C := Try.checked) own started (by kernel_rfl) Try.func3
    (ChangeSpec.witness6 (enc := enc) (C := Try.checked) false ⟨#[], #[.agg #[.int .i64 0, .int .i64 0, .int .i64 0, .slice none 0 0, .slice none 0 0, .slice none 0 0], .agg #[.string ByteArray.empty, .int .i64 0, .slice none 0 0, .string ByteArray.empty, .int .i64 0, .int .i64 0, .int .i64 0]], []⟩ 8 (by kernel_rfl) (by kernel_rfl) (by kernel_rfl) (by kernel_rfl)) ?_
  intro W base args ds gs before hval0 hW hcnd hsz0 _
  have hsz : (DataW.weightsEach Try.prog (Try.f3.params.toList ++ Rows.stockWeighsSpec.plain.varTypes Try.prog) (ds ++ gs)).all (· ≤ reachBytes) = true := hsz0
  have hval : ∀ (j : Nat) t v, Try.f3.params[j]? = some t → args[j]? = some v → Value.okWide Try.prog W .any base t v := hval0
  have hW' := hW
  obtain ⟨p, q, hA0, hV, rfl, hfz, hnd⟩ := hW
  have hA : DataW.TrodAll enc Try.prog W 0 (fun _ => true) true Try.f3.params.toList args.toList ds p := hA0
  rw [Try.params3] at hA hval hsz
  obtain ⟨v0, vs0, d0, ds0, p0, q0, hargs, rfl, rfl, h0, r0⟩ := trodAll_cons hA
  obtain ⟨v1, vs1, d1, ds1, p1, q1, rfl, rfl, rfl, h1, r1⟩ := trodAll_cons r0
  obtain ⟨rfl, rfl, rfl⟩ := trodAll_nil r1
  obtain rfl : args = #[v0, v1] := by cases args; simp_all
  obtain ⟨rfl, rfl⟩ := trodVars_none hV
  obtain ⟨cs0, rfl, _⟩ := okWide_struct Try.underlying26 (hval 0 26 v0 rfl rfl)
  have k0 := h0
  have lt0 : ∀ x ∈ p0, x.block < W.heap.size := by obtain ⟨m, hm⟩ := k0; exact DataW.trod_lt m _ _ _ hm
  obtain ⟨x0, hK0, hg0⟩ := struct_arg rd26 h0 (weights_arg hsz (j := 0) rfl rfl)
  obtain ⟨A0_3, c0_3, A0_4, c0_4, A0_5, c0_5, ho0, hl0_3, hC0_3, hl0_4, hC0_4, hl0_5, hC0_5⟩ := k26_open hK0
  obtain rfl : cs0 = #[.int .i64 x0.f0, .int .i64 x0.f1, .int .i64 x0.f2, .slice A0_3 x0.f3.length c0_3, .slice A0_4 x0.f4.length c0_4, .slice A0_5 x0.f5.length c0_5] := by cases cs0; simpa using ho0
  obtain ⟨cs1, rfl, _⟩ := okWide_struct Try.underlying31 (hval 1 31 v1 rfl rfl)
  have k1 := h1
  have lt1 : ∀ x ∈ p1, x.block < W.heap.size := by obtain ⟨m, hm⟩ := k1; exact DataW.trod_lt m _ _ _ hm
  obtain ⟨x1, hK1, hg1⟩ := struct_arg rd31 h1 (weights_arg hsz (j := 1) rfl rfl)
  obtain ⟨A1_2, c1_2, ho1, hl1_2, hC1_2⟩ := k31_open hK1
  obtain rfl : cs1 = #[.string x1.f0.f0, .int .i64 x1.f0.f1, .slice A1_2 x1.f0.f2.length c1_2, .string x1.f0.f3, .int .i64 x1.f0.f4, .int .i64 x1.f0.f5, .int .i64 x1.f1] := by cases cs1; simpa using ho1
  clear hA0 hval0 hsz0 hsz
  obtain ⟨k, hp⟩ := Pure.StockWeighs x0 x1 hg0 hg1
  refine (larderlaw12_StockWeighs.calls (k := k) (a0_0 := x0.f0) (a0_1 := x0.f1) (a0_2 := x0.f2) (A0_3 := A0_3) (c0_3 := c0_3) (l0_3 := x0.f3) (hr0_3 := hC0_3) (hc0_3 := hl0_3) (A0_4 := A0_4) (c0_4 := c0_4) (l0_4 := x0.f4) (hr0_4 := hC0_4) (hc0_4 := hl0_4) (A0_5 := A0_5) (c0_5 := c0_5) (l0_5 := x0.f5) (hr0_5 := hC0_5) (hc0_5 := hl0_5) (a1_0 := x1.f0.f0) (a1_1 := x1.f0.f1) (A1_2 := A1_2) (c1_2 := c1_2) (l1_2 := x1.f0.f2) (hr1_2 := hC1_2) (hc1_2 := hl1_2) (a1_3 := x1.f0.f3) (a1_4 := x1.f0.f4) (a1_5 := x1.f0.f5) (a1_6 := x1.f1) (r := true) (w := W) (h := hp) (hrt := rfl)).mono fun e W' hq => ?_
  obtain ⟨he, bel0⟩ := hq
  have bel : Below W.heap.size W W' := by first | exact bel0 | exact bel0.below
  subst he
  exact ⟨_, rfl, _, _, _, [], _, [], hW', trodAll_mk1 (shut_bool Try.underlying4 _), (trodAll_cons_mk (Below.trod laidOut (by kernel_rfl) (of_decide_eq_true (by kernel_rfl)) k0 bel lt0) (trodAll_cons_mk (Below.trod laidOut (by kernel_rfl) (of_decide_eq_true (by kernel_rfl)) k1 bel lt1) trodAll_mk0)), rfl, bel.frame _, fun h => by cases h⟩
theorem over : Rows.stockWeighsRow.holds Try.pinned (OpenSpec.ofChange Rows.stockWeighsSpec) :=
  OpenClaim.holds_of_wide 3 Try.f3 rfl rfl rfl rfl rfl rfl rfl ⟨rfl, rfl, rfl, rfl, rfl⟩ rfl rfl rfl rfl rfl (by kernel_rfl) Try.func3 (by kernel_rfl)
    (of_decide_eq_true (by kernel_rfl)) (by unfold Func.isWrapper; first | (rw [if_pos (by decide +kernel)]; kernel_rfl) | (rw [if_neg (by decide +kernel)]; exact ⟨rfl, rfl⟩))
    (fun os started H enc _ => lifted os started H enc)
theorem proved : Rows.StockWeighsSaid := over
#print axioms proved
end Go.Proofs.Ythgdjkmagppdlaa.stockWeighs
namespace Go.Proofs.Ythgdjkmagppdlaa
/-- The row, under a short name, for the claim. -/
theorem stockWeighs_holds : Rows.StockWeighsSaid := stockWeighs.proved
end Go.Proofs.Ythgdjkmagppdlaa
