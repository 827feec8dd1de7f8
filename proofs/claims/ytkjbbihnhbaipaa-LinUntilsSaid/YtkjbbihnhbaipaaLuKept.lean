/- kept: a twin is what it was. No condition. -/
import Derived.Test.YtkjbbihnhbaipaaLuTwinW
import Derived.Test.YtkjbbihnhbaipaaLuPure
import Derived.Deep.DeepCutAuto
namespace Go.Proofs.Ytkjbbihnhbaipaa.Lu
open Go.RowKit Go.Proofs.YtkjbbihnhbaipaaW.PrintWords Go.Proofs.YtkjbbihnhbaipaaW.PrintLast Go.Proofs.YtkjbbihnhbaipaaW.PrintMore Go.Proofs.Ytkjbbihnhbaipaa.Mk Go.Proofs.Ytkjbbihnhbaipaa.PLinUntils
set_option linter.unusedVariables false
set_option linter.unusedSimpArgs false

theorem kOpM_open {w : World} {x : S35} {cs : List Value} (h : kOpM.K w x cs) : ∃ A2 c2 z2 A9 c9 z9,
    cs = [.string x.f0.f0, .int .i64 x.f0.f1, .slice A2 x.f0.f2.length c2, .string x.f0.f3, .int .i64 x.f0.f4, .int .i64 x.f0.f5, .string x.f1.f0, .int .i64 x.f1.f1, .int .i64 x.f1.f2, .slice A9 x.f1.f3.length c9, .int .i64 x.f1.f4, .int .i64 x.f2, .int .i64 x.f3, .bool x.f4] ∧
    x.f0.f2.length + 1 ≤ c2 ∧ mkL z2 ∧ Kd.C k40 w A2 (x.f0.f2 ++ [z2]).length (x.f0.f2 ++ [z2]) ∧ x.f1.f3.length + 1 ≤ c9 ∧ mkV z9 ∧ Kd.C k42 w A9 (x.f1.f3 ++ [z9]).length (x.f1.f3 ++ [z9]) := by
  obtain ⟨q, r, rfl, ⟨q0, r0, rfl, h0, q1, r1, rfl, h1, q2, r2, rfl, ⟨A2, c2, z2, h2, hc2, hm2, hC2⟩, q3, r3, rfl, h3, q4, r4, rfl, h4, h5⟩, s, t, rfl, ⟨s0, t0, rfl, g0, s1, t1, rfl, g1, s2, t2, rfl, g2, s3, t3, rfl, ⟨A9, c9, z9, h9, hc9, hm9, hC9⟩, g4⟩, u0, v0, rfl, e0, u1, v1, rfl, e1, e2⟩ := h
  refine ⟨A2, c2, z2, A9, c9, z9, ?_, hc2, hm2, hC2, hc9, hm9, hC9⟩
  rw [show q0 = [.string x.f0.f0] from h0, show q1 = [.int .i64 x.f0.f1] from h1, h2, show q3 = [.string x.f0.f3] from h3, show q4 = [.int .i64 x.f0.f4] from h4, show r4 = [.int .i64 x.f0.f5] from h5, show s0 = [.string x.f1.f0] from g0, show s1 = [.int .i64 x.f1.f1] from g1, show s2 = [.int .i64 x.f1.f2] from g2, h9, show t3 = [.int .i64 x.f1.f4] from g4, show u0 = [.int .i64 x.f2] from e0, show u1 = [.int .i64 x.f3] from e1, show v1 = [.bool x.f4] from e2]
  rfl
theorem kOpM_K {w : World} {x : S35} {cs : List Value} (h : kOpM.K w x cs) : k35.K w x cs := by
  obtain ⟨A2, c2, z2, A9, c9, z9, rfl, hc2, _, hC2, hc9, _, hC9⟩ := kOpM_open h
  exact k35_mk _ _ (by omega) (C_front hC2) (by omega) (C_front hC9)
theorem Twin.plain {A : Option Addr} {c : Nat} {l : List S35} {w : World} (h : Twin A c l w) : Kd.C k35 w A l.length l := C_imp (d := kOpM) (d' := k35) rfl (fun _ _ => kOpM_K) h.2.1
theorem Twin.below {A : Option Addr} {c : Nat} {l : List S35} {w w1 : World} (h : Twin A c l w) (hb : Below w.heap.size w w1) : Twin A c l w1 := by
  obtain ⟨h1, h2, ad, e, h3⟩ := h
  exact ⟨h1, Kd.C_below h2 hb, ad, e, pw_cell_below hb h3⟩
theorem Twin.at {A : Option Addr} {c : Nat} {l : List S35} {w : World} (h : Twin A c l w) (hg : ∀ y ∈ l, y.f0.f2.length * 24 ≤ 140737488351232 ∧ y.f1.f3.length * 32 ≤ 140737488351232) (i : Nat) (hi : i < l.length) : ∃ ad a2 n2 c2 a9 n9 c9, A = some ad ∧ w.cell? ⟨(ad.add (i * 14)).block, (ad.add (i * 14)).off + 2, none⟩ = some (.slice (some a2) n2 c2) ∧ n2 + 1 ≤ c2 ∧ n2 < 4611686018427387904 ∧ w.cell? (a2.add (n2 * 2)) = some (.string markS) ∧
    w.cell? ⟨(ad.add (i * 14)).block, (ad.add (i * 14)).off + 9, none⟩ = some (.slice (some a9) n9 c9) ∧ n9 + 1 ≤ c9 ∧ n9 < 4611686018427387904 ∧ w.cell? (a9.add (n9 * 3)) = some (.string markS) := by
  obtain ⟨ad, cs, e, _, hK, hc0⟩ := Kd.C_get h.2.1 z35 (i : Int) (by omega) (by omega)
  rw [Int.toNat_natCast] at *
  have hgy := hg (l.getD i z35) (by rw [List.getD_eq_getElem?_getD, List.getElem?_eq_getElem hi]; exact List.getElem_mem hi)
  generalize l.getD i z35 = y at *
  have hc : ∀ j u, cs[j]? = some u → w.cell? (ad.add (i * 14 + j)) = some u := hc0
  obtain ⟨A2, c2, z2, A9, c9, z9, rfl, hc2, hm2, hC2, hc9, hm9, hC9⟩ := kOpM_open hK
  obtain ⟨a2, q2, e2, _, hk2, hq2⟩ := Kd.C_get hC2 z40 (y.f0.f2.length : Int) (by omega) (by rw [List.length_append]; simp only [List.length_cons, List.length_nil]; omega)
  obtain ⟨a9, q9, e9, _, hk9, hq9⟩ := Kd.C_get hC9 z42 (y.f1.f3.length : Int) (by omega) (by rw [List.length_append]; simp only [List.length_cons, List.length_nil]; omega)
  rw [Int.toNat_natCast] at *
  rw [show (y.f0.f2 ++ [z2]).getD y.f0.f2.length z40 = z2 by simp] at hk2
  rw [show (y.f1.f3 ++ [z9]).getD y.f1.f3.length z42 = z9 by simp] at hk9
  obtain rfl := k40_open hk2
  obtain rfl := k42_open hk9
  have g2 : w.cell? (a2.add (y.f0.f2.length * 2 + 0)) = some (.string z2.f0) := hq2 0 _ rfl
  have g9 : w.cell? (a9.add (y.f1.f3.length * 3 + 0)) = some (.string z9.f0) := hq9 0 _ rfl
  subst e2 e9
  exact ⟨ad, a2, _, c2, a9, _, c9, e, by rw [← add_field _ _ 2 (by omega)]; exact hc 2 _ rfl, hc2, by omega, g2.trans (by rw [show z2.f0 = markS from hm2]), by rw [← add_field _ _ 9 (by omega)]; exact hc 9 _ rfl, hc9, by omega, g9.trans (by rw [show z9.f0 = markS from hm9])⟩

theorem cut_cap {P : Program} (t e : TypeId) {i : TypeInfo} (ht : P.underlying t = some (.slice e)) (hi : P.info? e = some i) (A : Option Addr) (n c m : Nat) (hm : m ≤ c) :
    ∀ W : World, (Instr.slice t (.slice A n c) none (some (.int .i64 (m : Int))) none).run P W = .ok (.slice A m c) W := by
  intro W
  have hel : P.elem t = e := by simp [Program.elem, ht]
  have hu : P.underlying t = some (.slice (P.elem t)) := by rw [hel]; exact ht
  have ha : (A.map fun x => x.add 0) = A := by cases A <;> simp [Addr.add]
  rw [run_slice_h W t A n c hu .i64 (m : Int) (by omega) (by omega), hel]
  simp [sizeOf, typeInfo, hi, sliced, Result.andThen, ha]
theorem wrapS (n : Nat) (h : n < 4611686018427387904) : IntKind.i64.wrap ((n : Int) + 1) = ((n + 1 : Nat) : Int) := by
  rw [Go.IntWalk.i64_in _ (by omega)]
  omega

set_option maxRecDepth 100000 in
set_option maxHeartbeats 4000000 in
theorem kept_calls (A : Option Addr) (c : Nat) (A1 : Option Addr) (c1 : Nat) (l : List S35) (w : World) (hT : Twin A c l w) (hr1 : Kd.C k35 w A1 l.length l) (hc1 : l.length ≤ c1) (hg : ∀ y ∈ l, y.f0.f2.length * 24 ≤ 140737488351232 ∧ y.f1.f3.length * 32 ≤ 140737488351232) (hl : l.length ≤ 1125899906842624) :
    Calls Try.prog 11 #[.slice A l.length c, .slice A1 l.length c1] w fun e w' => e = .returned (.bool true) ∧ Below w.heap.size w w' := by
  have HT := Aside0.mk hT
  have HR1 := Aside0.mk hr1
  have HC1 := Aside0.mk hc1
  have HG := Aside0.mk hg
  clear hT hr1 hc1 hg
  have HS := Aside0.mk (sameOps_self l HG.out (by omega))
  obtain ⟨hcap, _, adA, eA, hEnd⟩ := HT.out
  subst eA
  have hw := wrapS l.length (by omega)
  have b0 : decide ((0 : Int) ≤ ((l.length + 1 : Nat) : Int)) = true := decide_eq_true (by omega)
  have b1 : decide (((l.length + 1 : Nat) : Int) ≤ (c : Int)) = true := decide_eq_true (by omega)
  have b2 : decide ((l.length : Int) < ((l.length + 1 : Nat) : Int)) = true := decide_eq_true (by omega)
  have b3 : decide (l.length < l.length + 1) = true := decide_eq_true (by omega)
  have b4 : decide (0 ≤ l.length) = true := decide_eq_true (by omega)
  have b5 : decide (l.length + 1 ≤ c) = true := decide_eq_true (by omega)
  obtain ⟨i35, hi35, _⟩ := info_parts info35
  have hcut := cut_cap (P := Try.prog) 22 35 Try.underlying22 hi35 (some adA) l.length c (l.length + 1) hcap
  go_enter Try.func11, Try.ntmps11
  go_wp2_with (first | ((with_reducible refine gate_callee (f := 14) rfl ?_); refine goesL_ (some 10) rfl rfl Try.func14 (by kernel_rfl) rfl #[.slice (some adA) l.length c, .slice A1 l.length c1] rfl (by (try simp only [List.map_toArray, List.map_cons, List.map_nil]); first | done | rfl) ?_; (with_reducible refine (larderlaw16_sameOps.calls _ _ _ l _ _ l true _ HT.out.plain (by omega) HR1.out HC1.out HS.out).mono ?_); rintro e w1 ⟨rfl, hB⟩; refine ⟨_, rfl, ?_⟩; have hEnd1 := pw_cell_below hB hEnd; have B1 := Aside0.mk hB; clear hB))
  go_loopw [5, 6, 7] (fun v5 v6 v7 wr => ∃ i : Nat, i ≤ l.length ∧ v5 = .int .i64 i ∧ wr = w1) (fun v5 _ _ _ => l.length - (intOf v5).toNat)
  case atStart => exact ⟨0, Nat.zero_le _, rfl, rfl⟩
  case round =>
    obtain ⟨i, hi, rfl, rfl⟩ := hrel
    by_cases hlt : i < l.length
    · obtain ⟨ad, a2, n2, c2, a9, n9, c9, e, h2, hc2, hn2, hm2, h9, hc9, hn9, hm9⟩ := (HT.out.below B1.out).at HG.out i hlt
      cases e
      replace hm2 : wr.cell? (a2.add (n2 * 2)) = some (.string ⟨#[109, 97, 114, 107]⟩) := hm2
      replace hm9 : wr.cell? (a9.add (n9 * 3)) = some (.string ⟨#[109, 97, 114, 107]⟩) := hm9
      have hcut2 := cut_cap (P := Try.prog) 28 40 Try.underlying28 (info_parts info40).choose_spec.1 (some a2) n2 c2 (n2 + 1) hc2
      have hcut9 := cut_cap (P := Try.prog) 31 42 Try.underlying31 (info_parts info42).choose_spec.1 (some a9) n9 c9 (n9 + 1) hc9
      have hw2 := wrapS n2 hn2
      have hw9 := wrapS n9 hn9
      have hwi := wrapS i (by omega)
      go_wp2_with fail
      go_roundw
      case rel => exact ⟨i + 1, by omega, by go_num, by first | trivial | rfl⟩
      case measure => simp [intOf]; omega
    · obtain rfl : i = l.length := by omega
      go_wp2_with fail
      go_ret
      exact ⟨rfl, B1.out⟩
end Go.Proofs.Ytkjbbihnhbaipaa.Lu
