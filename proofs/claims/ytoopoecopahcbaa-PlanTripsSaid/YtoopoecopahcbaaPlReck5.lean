/- larderref17.Quarters. No condition. -/
import Derived.Test.YtoopoecopahcbaaPlReck4
namespace Go.Proofs.Ytoopoecopahcbaa.Fl
open Go Go.RowKit Ieee Go.Proofs.YtoopoecopahcbaaW.PrintWords Go.Proofs.YtoopoecopahcbaaW.PrintLast Go.Proofs.YtoopoecopahcbaaW.PrintMore
set_option linter.unusedVariables false
set_option linter.unusedSimpArgs false

attribute [local go_sem] run_store_fl run_store_cx
def rA (zs : List Int) (k j : Nat) : Value := .float .f64 (if j < k then F (quRe zs zs.length j) else 0)
def rB (zs : List Int) (k j : Nat) : Value := .float .f64 (if j < k then F (quIm zs zs.length j) else 0)
def requV (zs : List Int) : Value := .tuple #[.agg #[.float .f64 (quA zs 0), .float .f64 (quB zs 0), .float .f64 (quA zs 1), .float .f64 (quB zs 1), .float .f64 (quA zs 2), .float .f64 (quB zs 2), .float .f64 (quA zs 3), .float .f64 (quB zs 3)], .int .i64 (faultF zs)]
theorem setCell_z {w : World} (o : Obj) (cs : Array Value) (T : TypeId) (i : Nat) (v : Value) : ((w.alloc o).alloc (.cells cs T (0, 0))).setCell ⟨w.heap.size + 1, i, none⟩ v = (w.alloc o).alloc (.cells (cs.setIfInBounds i v) T (0, 0)) := World.setCell_alloc_at _ _ _ _ _ (by simp)
set_option maxRecDepth 100000 in
set_option maxHeartbeats 16000000 in
theorem refquarters_calls (A : Option Addr) (c : Nat) (zs : List Int) (w : World) (ha : Kd.C (Kd.int .i64) w A zs.length zs) (hc : zs.length ≤ c) (hl : zs.length < 4611686018427387904) :
    Calls Try.prog 32 #[.slice A zs.length c] w fun e w' => e = .returned (requV zs) ∧ Below w.heap.size w w' := by
  have HA := Aside0.mk ha
  have HF := Aside0.mk (fun w' (hb : Below w.heap.size w w') => history_calls A c zs w' (Kd.C_below ha hb) hc hl)
  clear ha
  have HQV := Aside0.mk (show requV zs = .tuple #[.agg #[.float .f64 (quA zs 0), .float .f64 (quB zs 0), .float .f64 (quA zs 1), .float .f64 (quB zs 1), .float .f64 (quA zs 2), .float .f64 (quB zs 2), .float .f64 (quA zs 3), .float .f64 (quB zs 3)], .int .i64 (faultF zs)] from rfl)
  by_cases hf : faultF zs = 0
  case neg =>
    have H0 := Aside0.mk (qA_bad hf 0)
    have H1 := Aside0.mk (qA_bad hf 1)
    have H2 := Aside0.mk (qA_bad hf 2)
    have H3 := Aside0.mk (qA_bad hf 3)
    obtain ⟨f, hff⟩ : ∃ f, faultF zs = f := ⟨_, rfl⟩
    rw [hff] at HF hf HQV
    have d1 : (f != 0) = true := bne_iff_ne.2 hf
    clear hff hf
    go_enter Try.func32, Try.ntmps32
    go_wp2_with fail
    refine (HF.out _ (below_alloc (below_alloc (Below.refl _ _) _) _)).mono ?_
    rintro e w1 ⟨rfl, rfl⟩
    go_wp2_with fail
    refine bodyPost_ret (v := .tuple #[.agg #[.float .f64 0, .float .f64 0, .float .f64 0, .float .f64 0, .float .f64 0, .float .f64 0, .float .f64 0, .float .f64 0], .int .i64 f]) (by simp [results, Try.results32, go_sem]) rfl ⟨?_, ((Below.refl _ _).alloc (Nat.le_refl _) _).alloc (by simp) _⟩
    rw [HQV.out, H0.out.1, H0.out.2, H1.out.1, H1.out.2, H2.out.1, H2.out.2, H3.out.1, H3.out.2]
  case pos =>
    have H0 := Aside0.mk (qA_good hf 0)
    have H1 := Aside0.mk (qA_good hf 1)
    have H2 := Aside0.mk (qA_good hf 2)
    have H3 := Aside0.mk (qA_good hf 3)
    obtain ⟨hlen, hz⟩ := fault_good hf
    have HZ := Aside0.mk hz
    rw [hf] at HF HQV
    have HSB := Aside0.mk (fun j => sJ_bound hz j)
    clear hf hz
    go_enter Try.func32, Try.ntmps32
    go_wp2_with fail
    refine (HF.out _ (below_alloc (below_alloc (Below.refl _ _) _) _)).mono ?_
    rintro e w1 ⟨rfl, rfl⟩
    clear HF
    go_wp2_with fail
    go_loopw [6, 7, 8, 9, 30, 38, 46, 54] (fun v6 v7 v8 v9 v30 v38 v46 v54 wr => ∃ k : Nat, k ≤ 4 ∧ v6 = .int .i64 k ∧ wr = (w.alloc (.cells #[.float .f64 0, .float .f64 0, .float .f64 0, .float .f64 0, .float .f64 0, .float .f64 0, .float .f64 0, .float .f64 0] 41 (0, 0))).alloc (.cells #[rA zs k 0, rB zs k 0, rA zs k 1, rB zs k 1, rA zs k 2, rB zs k 2, rA zs k 3, rB zs k 3] 41 (0, 0))) (fun v6 _ _ _ _ _ _ _ _ => 4 - (intOf v6).toNat)
    case atStart => exact ⟨0, by omega, rfl, rfl⟩
    case round =>
      obtain ⟨k, hk, rfl, rfl⟩ := hrel
      rcases k with _ | _ | _ | _ | _ | k
      · simp only [rA, rB, Nat.reduceAdd, Nat.reduceLT, if_true, if_false]
        go_wp2_with fail
        go_loop [7, 8, 9, 30, 38, 46, 54] (fun v7 v8 v9 v30 v38 v46 v54 => ∃ t : Nat, t ≤ zs.length ∧ v9 = .int .i64 t ∧ v7 = .int .i64 (sJ zs 0 t + sJ zs 1 t + sJ zs 2 t + sJ zs 3 t) ∧ v8 = .int .i64 (0)) (fun _ _ v9 _ _ _ _ => zs.length - (intOf v9).toNat)
        case atStart => exact ⟨0, Nat.zero_le _, rfl, rfl, rfl⟩
        case round =>
          obtain ⟨t, ht, rfl, rfl, rfl⟩ := hrel
          obtain ⟨p0, q0⟩ := HSB.out 0 t ht
          obtain ⟨p1, q1⟩ := HSB.out 1 t ht
          obtain ⟨p2, q2⟩ := HSB.out 2 t ht
          obtain ⟨p3, q3⟩ := HSB.out 3 t ht
          by_cases hlt : t < zs.length
          · obtain ⟨ad, eA, hcA⟩ := at_num (Kd.C_below HA.out (below_alloc (below_alloc (Below.refl _ _) (.cells #[.float .f64 0, .float .f64 0, .float .f64 0, .float .f64 0, .float .f64 0, .float .f64 0, .float .f64 0, .float .f64 0] 41 (0, 0))) (.cells #[.float .f64 0, .float .f64 0, .float .f64 0, .float .f64 0, .float .f64 0, .float .f64 0, .float .f64 0, .float .f64 0] 41 (0, 0)))) t hlt
            obtain ⟨z1, z2⟩ := HZ.out zs[t] (List.getElem_mem hlt)
            have i0 : (0 : Int) ≤ (t : Int) := by omega
            have i1 : (t : Int) < (zs.length : Int) := by omega
            have hr : t % 4 = 0 ∨ t % 4 = 1 ∨ t % 4 = 2 ∨ t % 4 = 3 := by omega
            rcases hr with hr | hr | hr | hr
            · have e4 : True := trivial
              have N0 := Aside0.mk (sJ_yes (j := 0) hlt hr)
              have N1 := Aside0.mk (sJ_no (zs := zs) (j := 1) (k := t) (by omega))
              have N2 := Aside0.mk (sJ_no (zs := zs) (j := 2) (k := t) (by omega))
              have N3 := Aside0.mk (sJ_no (zs := zs) (j := 3) (k := t) (by omega))
              clear hr
              generalize zs[t] = z at *
              generalize hs0 : sJ zs 0 t = s0 at *
              clear hs0
              generalize hs1 : sJ zs 1 t = s1 at *
              clear hs1
              generalize hs2 : sJ zs 2 t = s2 at *
              clear hs2
              generalize hs3 : sJ zs 3 t = s3 at *
              clear hs3
              subst eA
              have b0 : s0 ≤ 4503599627370496 := by omega
              have b1 : s1 ≤ 4503599627370496 := by omega
              have b2 : s2 ≤ 4503599627370496 := by omega
              have b3 : s3 ≤ 4503599627370496 := by omega
              clear q0 q1 q2 q3
              go_wp2_with fail
              go_round
              case rel => exact ⟨t + 1, by omega, by go_num, by (repeat (first | rw [N0.out] | rw [N1.out] | rw [N2.out] | rw [N3.out])); (try exact congrArg (Value.int .i64) (by omega)), by (repeat (first | rw [N1.out] | rw [N3.out])); (try (first | rfl | exact congrArg (Value.int .i64) (by omega)))⟩
              case measure => simp [intOf]; omega
            · have e4 : True := trivial
              have N0 := Aside0.mk (sJ_no (zs := zs) (j := 0) (k := t) (by omega))
              have N1 := Aside0.mk (sJ_yes (j := 1) hlt hr)
              have N2 := Aside0.mk (sJ_no (zs := zs) (j := 2) (k := t) (by omega))
              have N3 := Aside0.mk (sJ_no (zs := zs) (j := 3) (k := t) (by omega))
              clear hr
              generalize zs[t] = z at *
              generalize hs0 : sJ zs 0 t = s0 at *
              clear hs0
              generalize hs1 : sJ zs 1 t = s1 at *
              clear hs1
              generalize hs2 : sJ zs 2 t = s2 at *
              clear hs2
              generalize hs3 : sJ zs 3 t = s3 at *
              clear hs3
              subst eA
              have b0 : s0 ≤ 4503599627370496 := by omega
              have b1 : s1 ≤ 4503599627370496 := by omega
              have b2 : s2 ≤ 4503599627370496 := by omega
              have b3 : s3 ≤ 4503599627370496 := by omega
              clear q0 q1 q2 q3
              go_wp2_with fail
              go_round
              case rel => exact ⟨t + 1, by omega, by go_num, by (repeat (first | rw [N0.out] | rw [N1.out] | rw [N2.out] | rw [N3.out])); (try exact congrArg (Value.int .i64) (by omega)), by (repeat (first | rw [N1.out] | rw [N3.out])); (try (first | rfl | exact congrArg (Value.int .i64) (by omega)))⟩
              case measure => simp [intOf]; omega
            · have e4 : True := trivial
              have N0 := Aside0.mk (sJ_no (zs := zs) (j := 0) (k := t) (by omega))
              have N1 := Aside0.mk (sJ_no (zs := zs) (j := 1) (k := t) (by omega))
              have N2 := Aside0.mk (sJ_yes (j := 2) hlt hr)
              have N3 := Aside0.mk (sJ_no (zs := zs) (j := 3) (k := t) (by omega))
              clear hr
              generalize zs[t] = z at *
              generalize hs0 : sJ zs 0 t = s0 at *
              clear hs0
              generalize hs1 : sJ zs 1 t = s1 at *
              clear hs1
              generalize hs2 : sJ zs 2 t = s2 at *
              clear hs2
              generalize hs3 : sJ zs 3 t = s3 at *
              clear hs3
              subst eA
              have b0 : s0 ≤ 4503599627370496 := by omega
              have b1 : s1 ≤ 4503599627370496 := by omega
              have b2 : s2 ≤ 4503599627370496 := by omega
              have b3 : s3 ≤ 4503599627370496 := by omega
              clear q0 q1 q2 q3
              go_wp2_with fail
              go_round
              case rel => exact ⟨t + 1, by omega, by go_num, by (repeat (first | rw [N0.out] | rw [N1.out] | rw [N2.out] | rw [N3.out])); (try exact congrArg (Value.int .i64) (by omega)), by (repeat (first | rw [N1.out] | rw [N3.out])); (try (first | rfl | exact congrArg (Value.int .i64) (by omega)))⟩
              case measure => simp [intOf]; omega
            · have e4 : True := trivial
              have N0 := Aside0.mk (sJ_no (zs := zs) (j := 0) (k := t) (by omega))
              have N1 := Aside0.mk (sJ_no (zs := zs) (j := 1) (k := t) (by omega))
              have N2 := Aside0.mk (sJ_no (zs := zs) (j := 2) (k := t) (by omega))
              have N3 := Aside0.mk (sJ_yes (j := 3) hlt hr)
              clear hr
              generalize zs[t] = z at *
              generalize hs0 : sJ zs 0 t = s0 at *
              clear hs0
              generalize hs1 : sJ zs 1 t = s1 at *
              clear hs1
              generalize hs2 : sJ zs 2 t = s2 at *
              clear hs2
              generalize hs3 : sJ zs 3 t = s3 at *
              clear hs3
              subst eA
              have b0 : s0 ≤ 4503599627370496 := by omega
              have b1 : s1 ≤ 4503599627370496 := by omega
              have b2 : s2 ≤ 4503599627370496 := by omega
              have b3 : s3 ≤ 4503599627370496 := by omega
              clear q0 q1 q2 q3
              go_wp2_with fail
              go_round
              case rel => exact ⟨t + 1, by omega, by go_num, by (repeat (first | rw [N0.out] | rw [N1.out] | rw [N2.out] | rw [N3.out])); (try exact congrArg (Value.int .i64) (by omega)), by (repeat (first | rw [N1.out] | rw [N3.out])); (try (first | rfl | exact congrArg (Value.int .i64) (by omega)))⟩
              case measure => simp [intOf]; omega
          · obtain rfl : t = zs.length := by omega
            have HQ := Aside0.mk (show quRe zs zs.length 0 = sJ zs 0 zs.length + sJ zs 1 zs.length + sJ zs 2 zs.length + sJ zs 3 zs.length ∧ quIm zs zs.length 0 = 0 from ⟨rfl, rfl⟩)
            rw [← HQ.out.1]
            go_wp2_with fail
            go_roundw
            case rel => exact ⟨0 + 1, by omega, by go_num, by simp [rA, rB, setCell_z, HQ.out.2]⟩
            case measure => simp [intOf]
      · simp only [rA, rB, Nat.reduceAdd, Nat.reduceLT, if_true, if_false]
        go_wp2_with fail
        go_loop [7, 8, 9, 30, 38, 46, 54] (fun v7 v8 v9 v30 v38 v46 v54 => ∃ t : Nat, t ≤ zs.length ∧ v9 = .int .i64 t ∧ v7 = .int .i64 (sJ zs 0 t - sJ zs 2 t) ∧ v8 = .int .i64 (sJ zs 3 t - sJ zs 1 t)) (fun _ _ v9 _ _ _ _ => zs.length - (intOf v9).toNat)
        case atStart => exact ⟨0, Nat.zero_le _, rfl, rfl, rfl⟩
        case round =>
          obtain ⟨t, ht, rfl, rfl, rfl⟩ := hrel
          obtain ⟨p0, q0⟩ := HSB.out 0 t ht
          obtain ⟨p1, q1⟩ := HSB.out 1 t ht
          obtain ⟨p2, q2⟩ := HSB.out 2 t ht
          obtain ⟨p3, q3⟩ := HSB.out 3 t ht
          by_cases hlt : t < zs.length
          · obtain ⟨ad, eA, hcA⟩ := at_num (Kd.C_below HA.out (below_alloc (below_alloc (Below.refl _ _) (.cells #[.float .f64 0, .float .f64 0, .float .f64 0, .float .f64 0, .float .f64 0, .float .f64 0, .float .f64 0, .float .f64 0] 41 (0, 0))) (.cells #[.float .f64 (F (quRe zs zs.length 0)), .float .f64 (F (quIm zs zs.length 0)), .float .f64 0, .float .f64 0, .float .f64 0, .float .f64 0, .float .f64 0, .float .f64 0] 41 (0, 0)))) t hlt
            obtain ⟨z1, z2⟩ := HZ.out zs[t] (List.getElem_mem hlt)
            have i0 : (0 : Int) ≤ (t : Int) := by omega
            have i1 : (t : Int) < (zs.length : Int) := by omega
            have hr : t % 4 = 0 ∨ t % 4 = 1 ∨ t % 4 = 2 ∨ t % 4 = 3 := by omega
            rcases hr with hr | hr | hr | hr
            · have e4 : ((t : Int) % 4) = 0 := by omega
              have N0 := Aside0.mk (sJ_yes (j := 0) hlt hr)
              have N1 := Aside0.mk (sJ_no (zs := zs) (j := 1) (k := t) (by omega))
              have N2 := Aside0.mk (sJ_no (zs := zs) (j := 2) (k := t) (by omega))
              have N3 := Aside0.mk (sJ_no (zs := zs) (j := 3) (k := t) (by omega))
              clear hr
              generalize zs[t] = z at *
              generalize hs0 : sJ zs 0 t = s0 at *
              clear hs0
              generalize hs1 : sJ zs 1 t = s1 at *
              clear hs1
              generalize hs2 : sJ zs 2 t = s2 at *
              clear hs2
              generalize hs3 : sJ zs 3 t = s3 at *
              clear hs3
              subst eA
              have b0 : s0 ≤ 4503599627370496 := by omega
              have b1 : s1 ≤ 4503599627370496 := by omega
              have b2 : s2 ≤ 4503599627370496 := by omega
              have b3 : s3 ≤ 4503599627370496 := by omega
              clear q0 q1 q2 q3
              go_wp2_with fail
              go_round
              case rel => exact ⟨t + 1, by omega, by go_num, by (repeat (first | rw [N0.out] | rw [N1.out] | rw [N2.out] | rw [N3.out])); (try exact congrArg (Value.int .i64) (by omega)), by (repeat (first | rw [N1.out] | rw [N3.out])); (try (first | rfl | exact congrArg (Value.int .i64) (by omega)))⟩
              case measure => simp [intOf]; omega
            · have e4 : ((t : Int) % 4) = 1 := by omega
              have N0 := Aside0.mk (sJ_no (zs := zs) (j := 0) (k := t) (by omega))
              have N1 := Aside0.mk (sJ_yes (j := 1) hlt hr)
              have N2 := Aside0.mk (sJ_no (zs := zs) (j := 2) (k := t) (by omega))
              have N3 := Aside0.mk (sJ_no (zs := zs) (j := 3) (k := t) (by omega))
              clear hr
              generalize zs[t] = z at *
              generalize hs0 : sJ zs 0 t = s0 at *
              clear hs0
              generalize hs1 : sJ zs 1 t = s1 at *
              clear hs1
              generalize hs2 : sJ zs 2 t = s2 at *
              clear hs2
              generalize hs3 : sJ zs 3 t = s3 at *
              clear hs3
              subst eA
              have b0 : s0 ≤ 4503599627370496 := by omega
              have b1 : s1 ≤ 4503599627370496 := by omega
              have b2 : s2 ≤ 4503599627370496 := by omega
              have b3 : s3 ≤ 4503599627370496 := by omega
              clear q0 q1 q2 q3
              go_wp2_with fail
              go_round
              case rel => exact ⟨t + 1, by omega, by go_num, by (repeat (first | rw [N0.out] | rw [N1.out] | rw [N2.out] | rw [N3.out])); (try exact congrArg (Value.int .i64) (by omega)), by (repeat (first | rw [N1.out] | rw [N3.out])); (try (first | rfl | exact congrArg (Value.int .i64) (by omega)))⟩
              case measure => simp [intOf]; omega
            · have e4 : ((t : Int) % 4) = 2 := by omega
              have N0 := Aside0.mk (sJ_no (zs := zs) (j := 0) (k := t) (by omega))
              have N1 := Aside0.mk (sJ_no (zs := zs) (j := 1) (k := t) (by omega))
              have N2 := Aside0.mk (sJ_yes (j := 2) hlt hr)
              have N3 := Aside0.mk (sJ_no (zs := zs) (j := 3) (k := t) (by omega))
              clear hr
              generalize zs[t] = z at *
              generalize hs0 : sJ zs 0 t = s0 at *
              clear hs0
              generalize hs1 : sJ zs 1 t = s1 at *
              clear hs1
              generalize hs2 : sJ zs 2 t = s2 at *
              clear hs2
              generalize hs3 : sJ zs 3 t = s3 at *
              clear hs3
              subst eA
              have b0 : s0 ≤ 4503599627370496 := by omega
              have b1 : s1 ≤ 4503599627370496 := by omega
              have b2 : s2 ≤ 4503599627370496 := by omega
              have b3 : s3 ≤ 4503599627370496 := by omega
              clear q0 q1 q2 q3
              go_wp2_with fail
              go_round
              case rel => exact ⟨t + 1, by omega, by go_num, by (repeat (first | rw [N0.out] | rw [N1.out] | rw [N2.out] | rw [N3.out])); (try exact congrArg (Value.int .i64) (by omega)), by (repeat (first | rw [N1.out] | rw [N3.out])); (try (first | rfl | exact congrArg (Value.int .i64) (by omega)))⟩
              case measure => simp [intOf]; omega
            · have e4 : ((t : Int) % 4) = 3 := by omega
              have N0 := Aside0.mk (sJ_no (zs := zs) (j := 0) (k := t) (by omega))
              have N1 := Aside0.mk (sJ_no (zs := zs) (j := 1) (k := t) (by omega))
              have N2 := Aside0.mk (sJ_no (zs := zs) (j := 2) (k := t) (by omega))
              have N3 := Aside0.mk (sJ_yes (j := 3) hlt hr)
              clear hr
              generalize zs[t] = z at *
              generalize hs0 : sJ zs 0 t = s0 at *
              clear hs0
              generalize hs1 : sJ zs 1 t = s1 at *
              clear hs1
              generalize hs2 : sJ zs 2 t = s2 at *
              clear hs2
              generalize hs3 : sJ zs 3 t = s3 at *
              clear hs3
              subst eA
              have b0 : s0 ≤ 4503599627370496 := by omega
              have b1 : s1 ≤ 4503599627370496 := by omega
              have b2 : s2 ≤ 4503599627370496 := by omega
              have b3 : s3 ≤ 4503599627370496 := by omega
              clear q0 q1 q2 q3
              go_wp2_with fail
              go_round
              case rel => exact ⟨t + 1, by omega, by go_num, by (repeat (first | rw [N0.out] | rw [N1.out] | rw [N2.out] | rw [N3.out])); (try exact congrArg (Value.int .i64) (by omega)), by (repeat (first | rw [N1.out] | rw [N3.out])); (try (first | rfl | exact congrArg (Value.int .i64) (by omega)))⟩
              case measure => simp [intOf]; omega
          · obtain rfl : t = zs.length := by omega
            have HQ := Aside0.mk (show quRe zs zs.length 1 = sJ zs 0 zs.length - sJ zs 2 zs.length ∧ quIm zs zs.length 1 = sJ zs 3 zs.length - sJ zs 1 zs.length from ⟨rfl, rfl⟩)
            rw [← HQ.out.1, ← HQ.out.2]
            go_wp2_with fail
            go_roundw
            case rel => exact ⟨1 + 1, by omega, by go_num, by simp [rA, rB, setCell_z]⟩
            case measure => simp [intOf]
      · simp only [rA, rB, Nat.reduceAdd, Nat.reduceLT, if_true, if_false]
        go_wp2_with fail
        go_loop [7, 8, 9, 30, 38, 46, 54] (fun v7 v8 v9 v30 v38 v46 v54 => ∃ t : Nat, t ≤ zs.length ∧ v9 = .int .i64 t ∧ v7 = .int .i64 (sJ zs 0 t - sJ zs 1 t + sJ zs 2 t - sJ zs 3 t) ∧ v8 = .int .i64 (0)) (fun _ _ v9 _ _ _ _ => zs.length - (intOf v9).toNat)
        case atStart => exact ⟨0, Nat.zero_le _, rfl, rfl, rfl⟩
        case round =>
          obtain ⟨t, ht, rfl, rfl, rfl⟩ := hrel
          obtain ⟨p0, q0⟩ := HSB.out 0 t ht
          obtain ⟨p1, q1⟩ := HSB.out 1 t ht
          obtain ⟨p2, q2⟩ := HSB.out 2 t ht
          obtain ⟨p3, q3⟩ := HSB.out 3 t ht
          by_cases hlt : t < zs.length
          · obtain ⟨ad, eA, hcA⟩ := at_num (Kd.C_below HA.out (below_alloc (below_alloc (Below.refl _ _) (.cells #[.float .f64 0, .float .f64 0, .float .f64 0, .float .f64 0, .float .f64 0, .float .f64 0, .float .f64 0, .float .f64 0] 41 (0, 0))) (.cells #[.float .f64 (F (quRe zs zs.length 0)), .float .f64 (F (quIm zs zs.length 0)), .float .f64 (F (quRe zs zs.length 1)), .float .f64 (F (quIm zs zs.length 1)), .float .f64 0, .float .f64 0, .float .f64 0, .float .f64 0] 41 (0, 0)))) t hlt
            obtain ⟨z1, z2⟩ := HZ.out zs[t] (List.getElem_mem hlt)
            have i0 : (0 : Int) ≤ (t : Int) := by omega
            have i1 : (t : Int) < (zs.length : Int) := by omega
            have hr : t % 4 = 0 ∨ t % 4 = 1 ∨ t % 4 = 2 ∨ t % 4 = 3 := by omega
            rcases hr with hr | hr | hr | hr
            · have e4 : (2 * (t : Int) % 4) = 0 := by omega
              have N0 := Aside0.mk (sJ_yes (j := 0) hlt hr)
              have N1 := Aside0.mk (sJ_no (zs := zs) (j := 1) (k := t) (by omega))
              have N2 := Aside0.mk (sJ_no (zs := zs) (j := 2) (k := t) (by omega))
              have N3 := Aside0.mk (sJ_no (zs := zs) (j := 3) (k := t) (by omega))
              clear hr
              generalize zs[t] = z at *
              generalize hs0 : sJ zs 0 t = s0 at *
              clear hs0
              generalize hs1 : sJ zs 1 t = s1 at *
              clear hs1
              generalize hs2 : sJ zs 2 t = s2 at *
              clear hs2
              generalize hs3 : sJ zs 3 t = s3 at *
              clear hs3
              subst eA
              have b0 : s0 ≤ 4503599627370496 := by omega
              have b1 : s1 ≤ 4503599627370496 := by omega
              have b2 : s2 ≤ 4503599627370496 := by omega
              have b3 : s3 ≤ 4503599627370496 := by omega
              clear q0 q1 q2 q3
              go_wp2_with fail
              go_round
              case rel => exact ⟨t + 1, by omega, by go_num, by (repeat (first | rw [N0.out] | rw [N1.out] | rw [N2.out] | rw [N3.out])); (try exact congrArg (Value.int .i64) (by omega)), by (repeat (first | rw [N1.out] | rw [N3.out])); (try (first | rfl | exact congrArg (Value.int .i64) (by omega)))⟩
              case measure => simp [intOf]; omega
            · have e4 : (2 * (t : Int) % 4) = 2 := by omega
              have N0 := Aside0.mk (sJ_no (zs := zs) (j := 0) (k := t) (by omega))
              have N1 := Aside0.mk (sJ_yes (j := 1) hlt hr)
              have N2 := Aside0.mk (sJ_no (zs := zs) (j := 2) (k := t) (by omega))
              have N3 := Aside0.mk (sJ_no (zs := zs) (j := 3) (k := t) (by omega))
              clear hr
              generalize zs[t] = z at *
              generalize hs0 : sJ zs 0 t = s0 at *
              clear hs0
              generalize hs1 : sJ zs 1 t = s1 at *
              clear hs1
              generalize hs2 : sJ zs 2 t = s2 at *
              clear hs2
              generalize hs3 : sJ zs 3 t = s3 at *
              clear hs3
              subst eA
              have b0 : s0 ≤ 4503599627370496 := by omega
              have b1 : s1 ≤ 4503599627370496 := by omega
              have b2 : s2 ≤ 4503599627370496 := by omega
              have b3 : s3 ≤ 4503599627370496 := by omega
              clear q0 q1 q2 q3
              go_wp2_with fail
              go_round
              case rel => exact ⟨t + 1, by omega, by go_num, by (repeat (first | rw [N0.out] | rw [N1.out] | rw [N2.out] | rw [N3.out])); (try exact congrArg (Value.int .i64) (by omega)), by (repeat (first | rw [N1.out] | rw [N3.out])); (try (first | rfl | exact congrArg (Value.int .i64) (by omega)))⟩
              case measure => simp [intOf]; omega
            · have e4 : (2 * (t : Int) % 4) = 0 := by omega
              have N0 := Aside0.mk (sJ_no (zs := zs) (j := 0) (k := t) (by omega))
              have N1 := Aside0.mk (sJ_no (zs := zs) (j := 1) (k := t) (by omega))
              have N2 := Aside0.mk (sJ_yes (j := 2) hlt hr)
              have N3 := Aside0.mk (sJ_no (zs := zs) (j := 3) (k := t) (by omega))
              clear hr
              generalize zs[t] = z at *
              generalize hs0 : sJ zs 0 t = s0 at *
              clear hs0
              generalize hs1 : sJ zs 1 t = s1 at *
              clear hs1
              generalize hs2 : sJ zs 2 t = s2 at *
              clear hs2
              generalize hs3 : sJ zs 3 t = s3 at *
              clear hs3
              subst eA
              have b0 : s0 ≤ 4503599627370496 := by omega
              have b1 : s1 ≤ 4503599627370496 := by omega
              have b2 : s2 ≤ 4503599627370496 := by omega
              have b3 : s3 ≤ 4503599627370496 := by omega
              clear q0 q1 q2 q3
              go_wp2_with fail
              go_round
              case rel => exact ⟨t + 1, by omega, by go_num, by (repeat (first | rw [N0.out] | rw [N1.out] | rw [N2.out] | rw [N3.out])); (try exact congrArg (Value.int .i64) (by omega)), by (repeat (first | rw [N1.out] | rw [N3.out])); (try (first | rfl | exact congrArg (Value.int .i64) (by omega)))⟩
              case measure => simp [intOf]; omega
            · have e4 : (2 * (t : Int) % 4) = 2 := by omega
              have N0 := Aside0.mk (sJ_no (zs := zs) (j := 0) (k := t) (by omega))
              have N1 := Aside0.mk (sJ_no (zs := zs) (j := 1) (k := t) (by omega))
              have N2 := Aside0.mk (sJ_no (zs := zs) (j := 2) (k := t) (by omega))
              have N3 := Aside0.mk (sJ_yes (j := 3) hlt hr)
              clear hr
              generalize zs[t] = z at *
              generalize hs0 : sJ zs 0 t = s0 at *
              clear hs0
              generalize hs1 : sJ zs 1 t = s1 at *
              clear hs1
              generalize hs2 : sJ zs 2 t = s2 at *
              clear hs2
              generalize hs3 : sJ zs 3 t = s3 at *
              clear hs3
              subst eA
              have b0 : s0 ≤ 4503599627370496 := by omega
              have b1 : s1 ≤ 4503599627370496 := by omega
              have b2 : s2 ≤ 4503599627370496 := by omega
              have b3 : s3 ≤ 4503599627370496 := by omega
              clear q0 q1 q2 q3
              go_wp2_with fail
              go_round
              case rel => exact ⟨t + 1, by omega, by go_num, by (repeat (first | rw [N0.out] | rw [N1.out] | rw [N2.out] | rw [N3.out])); (try exact congrArg (Value.int .i64) (by omega)), by (repeat (first | rw [N1.out] | rw [N3.out])); (try (first | rfl | exact congrArg (Value.int .i64) (by omega)))⟩
              case measure => simp [intOf]; omega
          · obtain rfl : t = zs.length := by omega
            have HQ := Aside0.mk (show quRe zs zs.length 2 = sJ zs 0 zs.length - sJ zs 1 zs.length + sJ zs 2 zs.length - sJ zs 3 zs.length ∧ quIm zs zs.length 2 = 0 from ⟨rfl, rfl⟩)
            rw [← HQ.out.1]
            go_wp2_with fail
            go_roundw
            case rel => exact ⟨2 + 1, by omega, by go_num, by simp [rA, rB, setCell_z, HQ.out.2]⟩
            case measure => simp [intOf]
      · simp only [rA, rB, Nat.reduceAdd, Nat.reduceLT, if_true, if_false]
        go_wp2_with fail
        go_loop [7, 8, 9, 30, 38, 46, 54] (fun v7 v8 v9 v30 v38 v46 v54 => ∃ t : Nat, t ≤ zs.length ∧ v9 = .int .i64 t ∧ v7 = .int .i64 (sJ zs 0 t - sJ zs 2 t) ∧ v8 = .int .i64 (sJ zs 1 t - sJ zs 3 t)) (fun _ _ v9 _ _ _ _ => zs.length - (intOf v9).toNat)
        case atStart => exact ⟨0, Nat.zero_le _, rfl, rfl, rfl⟩
        case round =>
          obtain ⟨t, ht, rfl, rfl, rfl⟩ := hrel
          obtain ⟨p0, q0⟩ := HSB.out 0 t ht
          obtain ⟨p1, q1⟩ := HSB.out 1 t ht
          obtain ⟨p2, q2⟩ := HSB.out 2 t ht
          obtain ⟨p3, q3⟩ := HSB.out 3 t ht
          by_cases hlt : t < zs.length
          · obtain ⟨ad, eA, hcA⟩ := at_num (Kd.C_below HA.out (below_alloc (below_alloc (Below.refl _ _) (.cells #[.float .f64 0, .float .f64 0, .float .f64 0, .float .f64 0, .float .f64 0, .float .f64 0, .float .f64 0, .float .f64 0] 41 (0, 0))) (.cells #[.float .f64 (F (quRe zs zs.length 0)), .float .f64 (F (quIm zs zs.length 0)), .float .f64 (F (quRe zs zs.length 1)), .float .f64 (F (quIm zs zs.length 1)), .float .f64 (F (quRe zs zs.length 2)), .float .f64 (F (quIm zs zs.length 2)), .float .f64 0, .float .f64 0] 41 (0, 0)))) t hlt
            obtain ⟨z1, z2⟩ := HZ.out zs[t] (List.getElem_mem hlt)
            have i0 : (0 : Int) ≤ (t : Int) := by omega
            have i1 : (t : Int) < (zs.length : Int) := by omega
            have hr : t % 4 = 0 ∨ t % 4 = 1 ∨ t % 4 = 2 ∨ t % 4 = 3 := by omega
            rcases hr with hr | hr | hr | hr
            · have e4 : (3 * (t : Int) % 4) = 0 := by omega
              have N0 := Aside0.mk (sJ_yes (j := 0) hlt hr)
              have N1 := Aside0.mk (sJ_no (zs := zs) (j := 1) (k := t) (by omega))
              have N2 := Aside0.mk (sJ_no (zs := zs) (j := 2) (k := t) (by omega))
              have N3 := Aside0.mk (sJ_no (zs := zs) (j := 3) (k := t) (by omega))
              clear hr
              generalize zs[t] = z at *
              generalize hs0 : sJ zs 0 t = s0 at *
              clear hs0
              generalize hs1 : sJ zs 1 t = s1 at *
              clear hs1
              generalize hs2 : sJ zs 2 t = s2 at *
              clear hs2
              generalize hs3 : sJ zs 3 t = s3 at *
              clear hs3
              subst eA
              have b0 : s0 ≤ 4503599627370496 := by omega
              have b1 : s1 ≤ 4503599627370496 := by omega
              have b2 : s2 ≤ 4503599627370496 := by omega
              have b3 : s3 ≤ 4503599627370496 := by omega
              clear q0 q1 q2 q3
              go_wp2_with fail
              go_round
              case rel => exact ⟨t + 1, by omega, by go_num, by (repeat (first | rw [N0.out] | rw [N1.out] | rw [N2.out] | rw [N3.out])); (try exact congrArg (Value.int .i64) (by omega)), by (repeat (first | rw [N1.out] | rw [N3.out])); (try (first | rfl | exact congrArg (Value.int .i64) (by omega)))⟩
              case measure => simp [intOf]; omega
            · have e4 : (3 * (t : Int) % 4) = 3 := by omega
              have N0 := Aside0.mk (sJ_no (zs := zs) (j := 0) (k := t) (by omega))
              have N1 := Aside0.mk (sJ_yes (j := 1) hlt hr)
              have N2 := Aside0.mk (sJ_no (zs := zs) (j := 2) (k := t) (by omega))
              have N3 := Aside0.mk (sJ_no (zs := zs) (j := 3) (k := t) (by omega))
              clear hr
              generalize zs[t] = z at *
              generalize hs0 : sJ zs 0 t = s0 at *
              clear hs0
              generalize hs1 : sJ zs 1 t = s1 at *
              clear hs1
              generalize hs2 : sJ zs 2 t = s2 at *
              clear hs2
              generalize hs3 : sJ zs 3 t = s3 at *
              clear hs3
              subst eA
              have b0 : s0 ≤ 4503599627370496 := by omega
              have b1 : s1 ≤ 4503599627370496 := by omega
              have b2 : s2 ≤ 4503599627370496 := by omega
              have b3 : s3 ≤ 4503599627370496 := by omega
              clear q0 q1 q2 q3
              go_wp2_with fail
              go_round
              case rel => exact ⟨t + 1, by omega, by go_num, by (repeat (first | rw [N0.out] | rw [N1.out] | rw [N2.out] | rw [N3.out])); (try exact congrArg (Value.int .i64) (by omega)), by (repeat (first | rw [N1.out] | rw [N3.out])); (try (first | rfl | exact congrArg (Value.int .i64) (by omega)))⟩
              case measure => simp [intOf]; omega
            · have e4 : (3 * (t : Int) % 4) = 2 := by omega
              have N0 := Aside0.mk (sJ_no (zs := zs) (j := 0) (k := t) (by omega))
              have N1 := Aside0.mk (sJ_no (zs := zs) (j := 1) (k := t) (by omega))
              have N2 := Aside0.mk (sJ_yes (j := 2) hlt hr)
              have N3 := Aside0.mk (sJ_no (zs := zs) (j := 3) (k := t) (by omega))
              clear hr
              generalize zs[t] = z at *
              generalize hs0 : sJ zs 0 t = s0 at *
              clear hs0
              generalize hs1 : sJ zs 1 t = s1 at *
              clear hs1
              generalize hs2 : sJ zs 2 t = s2 at *
              clear hs2
              generalize hs3 : sJ zs 3 t = s3 at *
              clear hs3
              subst eA
              have b0 : s0 ≤ 4503599627370496 := by omega
              have b1 : s1 ≤ 4503599627370496 := by omega
              have b2 : s2 ≤ 4503599627370496 := by omega
              have b3 : s3 ≤ 4503599627370496 := by omega
              clear q0 q1 q2 q3
              go_wp2_with fail
              go_round
              case rel => exact ⟨t + 1, by omega, by go_num, by (repeat (first | rw [N0.out] | rw [N1.out] | rw [N2.out] | rw [N3.out])); (try exact congrArg (Value.int .i64) (by omega)), by (repeat (first | rw [N1.out] | rw [N3.out])); (try (first | rfl | exact congrArg (Value.int .i64) (by omega)))⟩
              case measure => simp [intOf]; omega
            · have e4 : (3 * (t : Int) % 4) = 1 := by omega
              have N0 := Aside0.mk (sJ_no (zs := zs) (j := 0) (k := t) (by omega))
              have N1 := Aside0.mk (sJ_no (zs := zs) (j := 1) (k := t) (by omega))
              have N2 := Aside0.mk (sJ_no (zs := zs) (j := 2) (k := t) (by omega))
              have N3 := Aside0.mk (sJ_yes (j := 3) hlt hr)
              clear hr
              generalize zs[t] = z at *
              generalize hs0 : sJ zs 0 t = s0 at *
              clear hs0
              generalize hs1 : sJ zs 1 t = s1 at *
              clear hs1
              generalize hs2 : sJ zs 2 t = s2 at *
              clear hs2
              generalize hs3 : sJ zs 3 t = s3 at *
              clear hs3
              subst eA
              have b0 : s0 ≤ 4503599627370496 := by omega
              have b1 : s1 ≤ 4503599627370496 := by omega
              have b2 : s2 ≤ 4503599627370496 := by omega
              have b3 : s3 ≤ 4503599627370496 := by omega
              clear q0 q1 q2 q3
              go_wp2_with fail
              go_round
              case rel => exact ⟨t + 1, by omega, by go_num, by (repeat (first | rw [N0.out] | rw [N1.out] | rw [N2.out] | rw [N3.out])); (try exact congrArg (Value.int .i64) (by omega)), by (repeat (first | rw [N1.out] | rw [N3.out])); (try (first | rfl | exact congrArg (Value.int .i64) (by omega)))⟩
              case measure => simp [intOf]; omega
          · obtain rfl : t = zs.length := by omega
            have HQ := Aside0.mk (show quRe zs zs.length 3 = sJ zs 0 zs.length - sJ zs 2 zs.length ∧ quIm zs zs.length 3 = sJ zs 1 zs.length - sJ zs 3 zs.length from ⟨rfl, rfl⟩)
            rw [← HQ.out.1, ← HQ.out.2]
            go_wp2_with fail
            go_roundw
            case rel => exact ⟨3 + 1, by omega, by go_num, by simp [rA, rB, setCell_z]⟩
            case measure => simp [intOf]
      · simp only [rA, rB, Nat.reduceAdd, Nat.reduceLT, if_true, if_false]
        go_wp2_with fail
        refine bodyPost_ret (v := .tuple #[.agg #[.float .f64 (F (quRe zs zs.length 0)), .float .f64 (F (quIm zs zs.length 0)), .float .f64 (F (quRe zs zs.length 1)), .float .f64 (F (quIm zs zs.length 1)), .float .f64 (F (quRe zs zs.length 2)), .float .f64 (F (quIm zs zs.length 2)), .float .f64 (F (quRe zs zs.length 3)), .float .f64 (F (quIm zs zs.length 3))], .int .i64 0]) (by simp [results, Try.results32, go_sem]) rfl ⟨?_, ?_⟩
        · rw [HQV.out, H0.out.1, H0.out.2, H1.out.1, H1.out.2, H2.out.1, H2.out.2, H3.out.1, H3.out.2]
        · exact ((Below.refl _ _).alloc (Nat.le_refl _) _).alloc (by simp) _
      · omega
end Go.Proofs.Ytoopoecopahcbaa.Fl
