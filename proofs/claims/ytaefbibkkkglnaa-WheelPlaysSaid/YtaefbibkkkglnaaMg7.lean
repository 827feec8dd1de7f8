/- WheelPlays: the contract of the law. No condition but the reach. -/
import Derived.Test.YtaefbibkkkglnaaMg6
import Derived.Test.YtaefbibkkkglnaaKn
import Derived.OpenShut
namespace Go.Proofs.Ytaefbibkkkglnaa.Wh
open Go Go.RowKit Go.Proofs.YtaefbibkkkglnaaW.PrintWords Go.Proofs.Ytaefbibkkkglnaa.Fr Go.Proofs.Ytaefbibkkkglnaa.Kn
set_option linter.unusedVariables false
set_option linter.unusedSimpArgs false
theorem both_new {w w1 w2 : World} {now : Int} {p : Nat} (h1 : Whl w1 (fun b => w.heap.size ≤ b ∧ b < w1.heap.size) p now []) (b1 : Below w.heap.size w w1) (h2 : Ref w2 (fun b => b = w1.heap.size) w1.heap.size now []) (b2 : Below w1.heap.size w1 w2) : Both w w2 p w1.heap.size now [] :=
  ⟨_, _, h1.below b2, h2, fun x h e => by omega, fun x h => h.1, b1.size, b1.trans (b2.mono b1.size)⟩
set_option maxRecDepth 100000 in
set_option maxHeartbeats 4000000 in
theorem plays_true (x0 : Int) (A1 : Option Addr) (c1 : Nat) (ops : List S62) (w : World) (h1 : Kd.C k62 w A1 ops.length ops) (hc1 : ops.length ≤ c1)
    (hs : ∀ x ∈ ops, x.f1.size < 4611686018427387904) (ha : ∀ x ∈ ops, -9223372036854775808 ≤ x.f2 ∧ x.f2 ≤ 9223372036854775807) (hl : ops.length ≤ 4611686018427387904) :
    Calls Try.prog 8 #[.int .i64 x0, .slice A1 ops.length c1] w fun e w' => e = .returned (.bool true) ∧ Below w.heap.size w w' := by
  have H1 := Aside0.mk h1
  have HS := Aside0.mk hs
  have HA := Aside0.mk ha
  clear h1 hs ha
  by_cases hx : 0 ≤ x0 ∧ x0 ≤ 1099511627776
  · have HN := Aside0.mk (new_calls x0 w hx.1 hx.2)
    have HR := Aside0.mk (fun w => rnew_ok x0 w hx)
    clear hx
    go_enter Try.func8, Try.ntmps8
    go_wp2_with fail
    refine (HN.out).mono ?_
    rintro e w1 ⟨rfl, hW1, hB1⟩
    have HW1 := Aside0.mk hW1
    have HB1 := Aside0.mk hB1
    clear hW1 hB1
    go_wp2_with fail
    refine (HR.out _).mono ?_
    rintro e w2 ⟨rfl, hR2, hB2⟩
    have HB := Aside0.mk (both_new HW1.out HB1.out hR2 hB2)
    clear hR2 hB2
    go_wp2_with fail
    go_loopg [9, 10] ops.length (fun g v9 v10 wx => ∃ (i : Nat) (T : Int) (l : List E), g = ops.length - i ∧ i ≤ ops.length ∧ v9 = .int .i64 i ∧ Aside0 (Both w wx (w.heap.size + 1) w1.heap.size T l))
    case atStart => exact ⟨0, x0, [], rfl, by omega, rfl, HB⟩
    case round =>
      clear HB
      obtain ⟨i, T, l, rfl, hi, rfl, HB⟩ := hrel
      have i0 : (0 : Int) ≤ (i : Int) := by omega
      by_cases h : i < ops.length
      · have i1 : (i : Int) < (ops.length : Int) := by omega
        obtain ⟨ad, rfl, a1, a2, a3, a4⟩ := at_T62 (Kd.C_below H1.out HB.out.facts.2.2.2.2.2) (i : Int) i0 i1
        have hg : rd_T62 ops (i : Int) = ops[i] := by
          unfold rd_T62
          rw [Int.toNat_natCast, List.getD_eq_getElem?_getD, List.getElem?_eq_getElem h]
          rfl
        rw [hg, Int.toNat_natCast] at a1 a2 a3 a4
        have HC := Aside0.mk (does_calls HB.out ops[i].f0 ops[i].f1 ops[i].f2 ops[i].f3 (HS.out _ (List.getElem_mem h)) (HA.out _ (List.getElem_mem h)))
        clear hg
        generalize ops[i] = x at *
        generalize x.f0 = y0 at *
        generalize x.f1 = y1 at *
        generalize x.f2 = y2 at *
        generalize x.f3 = y3 at *
        go_wp2_with fail
        refine (HC.out).mono ?_
        rintro e w3 ⟨rfl, T', l', hB'⟩
        have HB' := Aside0.mk hB'
        clear hB'
        go_wp2_with fail
        go_roundg (ops.length - (i + 1))
        case measure => omega
        case rel => exact ⟨i + 1, T', l', rfl, by omega, by go_num, HB'⟩
      · obtain rfl : i = ops.length := by omega
        go_wp2_with fail
        refine (does_calls HB.out 5 ⟨#[]⟩ 0 false (by decide) (by omega)).mono ?_
        rintro e w3 ⟨rfl, T', l', hB'⟩
        have HB' := Aside0.mk hB'
        clear hB'
        go_wp2_with fail
        refine (does_calls HB'.out 6 ⟨#[]⟩ 3 false (by decide) (by omega)).mono ?_
        rintro e w4 ⟨rfl, T2, l2, hB2⟩
        have HB2 := Aside0.mk hB2
        clear hB2
        go_wp2_with fail
        go_ret
        exact ⟨rfl, HB2.out.facts.2.2.2.2.2⟩
  · have HN := Aside0.mk (new_bad x0 w hx)
    have HR := Aside0.mk (fun w => rnew_bad x0 w hx)
    clear hx
    go_enter Try.func8, Try.ntmps8
    go_wp2_with fail
    refine (HN.out).mono ?_
    rintro e w1 ⟨rfl, n, rfl⟩
    go_wp2_with fail
    refine (HR.out _).mono ?_
    rintro e w2 ⟨rfl, rfl⟩
    go_wp2_with fail
    go_ret
    exact ⟨rfl, pw_below_drewN (Below.refl _ _) n⟩
theorem plays_row (x0 : Int) (A1 : Option Addr) (c1 : Nat) (ops : List S62) (w : World) (h1 : Kd.C k62 w A1 ops.length ops) (hc1 : ops.length ≤ c1)
    (g0 : (Lit.int .i64 x0).wf = true) (g1 : (∀ z ∈ ops, g62 z) ∧ ops.length * 40 ≤ 140737488351232 ∧ ops.length ≤ maxLen) :
    Calls Try.prog 8 #[.int .i64 x0, .slice A1 ops.length c1] w fun e w' => e = .returned (.bool true) ∧ Below w.heap.size w w' :=
  plays_true x0 A1 c1 ops w h1 hc1 (fun x hx => by have := (g1.1 x hx).2.1; omega) (fun x hx => bounds_i64 (g1.1 x hx).2.2.1) (by have := g1.2.1; omega)
end Go.Proofs.Ytaefbibkkkglnaa.Wh

