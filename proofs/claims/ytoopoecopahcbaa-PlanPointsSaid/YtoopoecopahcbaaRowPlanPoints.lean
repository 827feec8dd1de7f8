/- PlanPoints: the law's contract and the given row. No condition. -/
import Derived.Test.YtoopoecopahcbaaRows
import Derived.Test.YtoopoecopahcbaaPlPoint2
import Derived.Lib.SmallJoins
import Derived.WalkKit
import Derived.ProofKit
import Derived.OpenShut
import Derived.ShutString
import Derived.ChangeOld
import Derived.Below
import Derived.SizedLaws
namespace Go.Proofs.Ytoopoecopahcbaa.Fl
open Go Go.RowKit Ieee
set_option linter.unusedVariables false
set_option linter.unusedSimpArgs false
set_option maxRecDepth 100000 in
set_option maxHeartbeats 4000000 in
theorem points_true (m d z : Nat) (l : Int) (hm : m < 18446744073709551616) (hd : d < 18446744073709551616) (hz : z < 18446744073709551616) (w : World) :
    Calls Try.prog 10 #[.agg #[.float .f64 m, .float .f64 d, .float .f64 z, .int .i64 l]] w fun e w' => e = .returned (.bool true) ∧ Below w.heap.size w w' := by
  have P1 := Lib.hid (fun w => point_calls m d z l hm hd hz w)
  have P2 := Lib.hid (fun w => refpoint_calls m d z l hm hd hz w)
  unfold pointV at P1 P2
  generalize pointR m d z l = R at *
  obtain ⟨r1, r2⟩ := R
  simp only at P1 P2
  clear hm hd hz
  go_enter Try.func10, Try.ntmps10
  go_wp2_with fail
  refine (P1.out _).mono ?_
  rintro e w1 ⟨rfl, hb1⟩
  obtain ⟨hc1, hf1⟩ := bcell hb1
  have hz := hb1.size
  have HB1 := Lib.hid hb1
  clear hb1
  go_wp2_with fail
  refine (P2.out _).mono ?_
  rintro e w2 ⟨rfl, hb2⟩
  have HB2 := Lib.hid hb2
  clear hb2 hc1 hf1 hz
  go_wp2_with fail
  go_ret
  exact ⟨rfl, below_two (n := 0) HB1.out HB2.out⟩
end Go.Proofs.Ytoopoecopahcbaa.Fl
namespace Go.Proofs.Ytoopoecopahcbaa.planPoints
open Go.ChangeShapes Go.WideShapes Go.ChangeAt Go.RowKit Go.Proofs.Ytoopoecopahcbaa.Fl
set_option linter.unusedVariables false
theorem own : ownKnob Try.prog.godebug = none := by kernel_rfl
theorem laidOut : laidOutB Try.prog = true := by kernel_rfl
theorem trod_float {P : Program} {t : TypeId} (ht : P.underlying t = some (.float .f64)) {H : Type} {enc : TypeId × Value → H} {w : World} {fuel : Nat} {c : Value} {x : DataW H × List MemPlace} (h : DataW.trod enc P w 0 (fun _ => true) true fuel t [c] = some x) : ∃ b, c = .float .f64 b ∧ b < 18446744073709551616 := by
  cases fuel with
  | zero => simp [DataW.trod] at h
  | succ n =>
    cases c <;> simp [DataW.trod, ht] at h
    rename_i k b
    obtain ⟨⟨rfl, hw⟩, _⟩ := h
    refine ⟨b, rfl, ?_⟩
    simp only [Lit.wf, decide_eq_true_eq] at hw
    exact Nat.lt_of_lt_of_eq hw (by decide)
theorem need_u : ∃ f0 f1 f2 f3 : Field, Try.prog.underlying 72 = some (.struct #[f0, f1, f2, f3]) ∧ f0.type = 35 ∧ f1.type = 35 ∧ f2.type = 35 ∧ f3.type = 3 ∧ Go.Deep.oneCellFields Try.prog #[f0, f1, f2, f3] = true :=
  ⟨_, _, _, _, Try.underlying72, rfl, rfl, rfl, rfl, by kernel_rfl⟩
theorem need_c : Try.prog.cellsOf 72 = 4 := by kernel_rfl
set_option maxRecDepth 100000 in
theorem open_need {H : Type} {enc : TypeId × Value → H} {w : World} {base : Nat} {v : Value} {d : DataW H} {ps : List MemPlace} (hv : Value.okWide Try.prog w .any base 72 v) (h : DataW.Trod enc Try.prog w 0 (fun _ => true) true 72 v d ps) :
    ∃ (a b c : Nat) (n : Int), v = .agg #[.float .f64 a, .float .f64 b, .float .f64 c, .int .i64 n] ∧ a < 18446744073709551616 ∧ b < 18446744073709551616 ∧ c < 18446744073709551616 := by
  obtain ⟨f0, f1, f2, f3, hu, t0, t1, t2, t3, hone⟩ := need_u
  obtain ⟨v0, v1, v2, v3, y0, y1, y2, y3, n, rfl, _, _, h0, h1, h2, h3⟩ := Joins.open_agg4 hu hone need_c hv h
  rw [t0] at h0
  rw [t1] at h1
  rw [t2] at h2
  rw [t3] at h3
  obtain ⟨a, rfl, ga⟩ := trod_float Try.underlying35 h0
  obtain ⟨b, rfl, gb⟩ := trod_float Try.underlying35 h1
  obtain ⟨c, rfl, gc⟩ := trod_float Try.underlying35 h2
  obtain ⟨m, e, _⟩ := DataW.trod_int Try.underlying3 h3
  obtain rfl : v3 = .int .i64 m := by simpa using e
  exact ⟨a, b, c, m, rfl, ga, gb, gc⟩
set_option maxRecDepth 100000 in
theorem lifted (os : Os) (started : os.Started) (H : Type) (enc : TypeId × Value → H) :
    ReturnsInHanded {} Try.checked os 10 .any (Rows.planPointsSpec.pre6 enc Try.prog Try.f10 Rows.planPointsRow.domain false) (Rows.planPointsSpec.post enc Try.prog Try.f10 false true false false) := by
  refine returnsInHanded_of_change_sized (C := Try.checked) own started (by kernel_rfl) Try.func10
    (ChangeSpec.witness6 (enc := enc) (C := Try.checked) false ⟨#[], #[.agg #[.float .f64 0, .float .f64 0, .float .f64 0, .int .i64 0]], []⟩ 8 (by kernel_rfl) (by kernel_rfl) (by kernel_rfl) (by kernel_rfl)) ?_
  intro W base args ds gs before hval0 hW hcnd hsz0 _
  have hval : ∀ (j : Nat) t v, Try.f10.params[j]? = some t → args[j]? = some v → Value.okWide Try.prog W .any base t v := hval0
  have hW' := hW
  obtain ⟨p, q, hA0, hV, rfl, hfz, hnd⟩ := hW
  have hA : DataW.TrodAll enc Try.prog W 0 (fun _ => true) true Try.f10.params.toList args.toList ds p := hA0
  rw [Try.params10] at hA hval
  obtain ⟨v0, vs0, d0, ds0, p0, q0, hargs, rfl, rfl, h0, r0⟩ := trodAll_cons hA
  obtain ⟨rfl, rfl, rfl⟩ := trodAll_nil r0
  obtain rfl : args = #[v0] := by cases args; simp_all
  obtain ⟨rfl, rfl⟩ := trodVars_none hV
  have k0 := h0
  have lt0 : ∀ x ∈ p0, x.block < W.heap.size := by obtain ⟨m, hm⟩ := k0; exact DataW.trod_lt m _ _ _ hm
  obtain ⟨a, b, c, n, rfl, ga, gb, gc⟩ := open_need (hval 0 72 v0 rfl rfl) h0
  clear hA0 hval0 hsz0
  refine (points_true a b c n ga gb gc W).mono fun e W' hq => ?_
  obtain ⟨rfl, bel⟩ := hq
  exact ⟨_, rfl, _, _, _, [], _, [], hW', trodAll_mk1 (shut_bool Try.underlying4 _), (trodAll_cons_mk (Below.trod laidOut (by kernel_rfl) (of_decide_eq_true (by kernel_rfl)) k0 bel lt0) trodAll_mk0), rfl, bel.frame _, fun h => by cases h⟩
theorem over : Rows.planPointsRow.holds Try.pinned (OpenSpec.ofChange Rows.planPointsSpec) :=
  OpenClaim.holds_of_wide 10 Try.f10 rfl rfl rfl rfl rfl rfl rfl ⟨rfl, rfl, rfl, rfl, rfl⟩ rfl rfl rfl rfl rfl (by kernel_rfl) Try.func10 (by kernel_rfl)
    (of_decide_eq_true (by kernel_rfl)) (by unfold Func.isWrapper; first | (rw [if_pos (by decide +kernel)]; kernel_rfl) | (rw [if_neg (by decide +kernel)]; exact ⟨rfl, rfl⟩))
    (fun os started H enc _ => lifted os started H enc)
theorem proved : Rows.PlanPointsSaid := over
#print axioms proved
end Go.Proofs.Ytoopoecopahcbaa.planPoints
namespace Go.Proofs.Ytoopoecopahcbaa
/-- The row, under a short name, for the claim. -/
theorem planPoints_holds : Rows.PlanPointsSaid := planPoints.proved
end Go.Proofs.Ytoopoecopahcbaa
