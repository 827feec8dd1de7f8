/- plan.Quarters. No condition. -/
import Derived.Test.YtoopoecopahcbaaPlReck3
import Derived.Deep.RegionHeld3
import Derived.Deep.DrawnRows
namespace Go.Proofs.Ytoopoecopahcbaa.Fl
open Go Go.RowKit Ieee Go.Proofs.YtoopoecopahcbaaW.PrintWords Go.Proofs.YtoopoecopahcbaaW.PrintLast Go.Proofs.YtoopoecopahcbaaW.PrintMore
set_option linter.unusedVariables false
set_option linter.unusedSimpArgs false

theorem run_store_fl {P : Program} {w : World} {a : Addr} {m : Mode} (k : FloatKind) (b : Nat) : (store a (.float k b) m).run P w = stored P w a (.float k b) m := run_store P w a _ m rfl
theorem run_store_cx {P : Program} {w : World} {a : Addr} {m : Mode} (k : FloatKind) (b c : Nat) : (store a (.complex k b c) m).run P w = stored P w a (.complex k b c) m := run_store P w a _ m rfl
attribute [local go_sem] run_store_fl run_store_cx
def sJ (zs : List Int) (j : Nat) : Nat → Int
  | 0 => 0
  | k + 1 => sJ zs j k + (if k % 4 = j then zs.getD k 0 else 0)
theorem sJ_yes {zs : List Int} {j k : Nat} (hk : k < zs.length) (h : k % 4 = j) : sJ zs j (k + 1) = sJ zs j k + zs[k] := by
  show sJ zs j k + (if k % 4 = j then zs.getD k 0 else 0) = _
  rw [if_pos h, List.getD_eq_getElem?_getD, List.getElem?_eq_getElem hk]
  rfl
theorem sJ_no {zs : List Int} {j k : Nat} (h : k % 4 ≠ j) : sJ zs j (k + 1) = sJ zs j k := by
  show sJ zs j k + (if k % 4 = j then zs.getD k 0 else 0) = _
  rw [if_neg h, Int.add_zero]
theorem sJ_bound {zs : List Int} (h : ∀ z ∈ zs, 0 ≤ z ∧ z ≤ 1099511627776) (j : Nat) : ∀ k, k ≤ zs.length → 0 ≤ sJ zs j k ∧ sJ zs j k ≤ (k : Int) * 1099511627776
  | 0, _ => by unfold sJ; simp
  | k + 1, hk => by
    obtain ⟨a, b⟩ := sJ_bound h j k (by omega)
    obtain ⟨c, d⟩ := h zs[k] (List.getElem_mem _)
    by_cases hj : k % 4 = j
    · rw [sJ_yes (by omega) hj]; omega
    · rw [sJ_no hj]; omega
abbrev F (n : Int) : Nat := floatOfInt .f64 n
/-- The quarters: their real parts, their imaginary parts. -/
def quRe (zs : List Int) (k j : Nat) : Int :=
  if j = 0 then sJ zs 0 k + sJ zs 1 k + sJ zs 2 k + sJ zs 3 k else if j = 1 then sJ zs 0 k - sJ zs 2 k else if j = 2 then sJ zs 0 k - sJ zs 1 k + sJ zs 2 k - sJ zs 3 k else sJ zs 0 k - sJ zs 2 k
def quIm (zs : List Int) (k j : Nat) : Int := if j = 0 then 0 else if j = 1 then sJ zs 3 k - sJ zs 1 k else if j = 2 then 0 else sJ zs 1 k - sJ zs 3 k
def quA (zs : List Int) (j : Nat) : Nat := if faultF zs = 0 then F (quRe zs zs.length j) else 0
def quB (zs : List Int) (j : Nat) : Nat := if faultF zs = 0 then F (quIm zs zs.length j) else 0
theorem qu_ok (zs : List Int) (j : Nat) : Ok (quA zs j) ∧ Ok (quB zs j) := by
  unfold quA quB
  split
  · exact ⟨fI_ok _, fI_ok _⟩
  · exact ⟨Nn_ok (Nat.zero_le _), Nn_ok (Nat.zero_le _)⟩
def quV (zs : List Int) : Value := .tuple #[.agg #[.complex .f64 (quA zs 0) (quB zs 0), .complex .f64 (quA zs 1) (quB zs 1), .complex .f64 (quA zs 2) (quB zs 2), .complex .f64 (quA zs 3) (quB zs 3)], .int .i64 (faultF zs)]
theorem qA_good {zs : List Int} (h : faultF zs = 0) (j : Nat) : quA zs j = F (quRe zs zs.length j) ∧ quB zs j = F (quIm zs zs.length j) := by
  unfold quA quB
  rw [if_pos h, if_pos h]
  exact ⟨rfl, rfl⟩
theorem qA_bad {zs : List Int} (h : faultF zs ≠ 0) (j : Nat) : quA zs j = 0 ∧ quB zs j = 0 := by
  unfold quA quB
  rw [if_neg h, if_neg h]
  exact ⟨rfl, rfl⟩
set_option maxRecDepth 100000 in
theorem cnum_calls (a b : Int) (w : World) : Calls Try.prog 57 #[.int .i64 a, .int .i64 b] w fun e w' => e = .returned (.complex .f64 (F a) (F b)) ∧ w' = w := by
  unfold F
  go_enter Try.func57, Try.ntmps57
  go_wp2_with fail
  go_ret
  exact ⟨rfl, rfl⟩
set_option maxRecDepth 100000 in
set_option maxHeartbeats 8000000 in
theorem quarters_calls (A : Option Addr) (c : Nat) (zs : List Int) (w : World) (ha : Kd.C (Kd.int .i64) w A zs.length zs) (hc : zs.length ≤ c) (hl : zs.length < 4611686018427387904) :
    Calls Try.prog 31 #[.slice A zs.length c] w fun e w' => e = .returned (quV zs) ∧ Below w.heap.size w w' := by
  have HA := Aside0.mk ha
  have HF := Aside0.mk (fun w' (hb : Below w.heap.size w w') => fault_calls A c zs w' (Kd.C_below ha hb) hc hl)
  clear ha
  have HQV := Aside0.mk (show quV zs = .tuple #[.agg #[.complex .f64 (quA zs 0) (quB zs 0), .complex .f64 (quA zs 1) (quB zs 1), .complex .f64 (quA zs 2) (quB zs 2), .complex .f64 (quA zs 3) (quB zs 3)], .int .i64 (faultF zs)] from rfl)
  by_cases hf : faultF zs = 0
  case neg =>
    have H0 := Aside0.mk (qA_bad hf 0)
    have H1 := Aside0.mk (qA_bad hf 1)
    have H2 := Aside0.mk (qA_bad hf 2)
    have H3 := Aside0.mk (qA_bad hf 3)
    obtain ⟨f, hff⟩ : ∃ f, faultF zs = f := ⟨_, rfl⟩
    rw [hff] at HF hf HQV
    have d1 : (f != 0) = true := bne_iff_ne.2 hf
    clear hff hf
    go_enter Try.func31, Try.ntmps31
    go_wp2_with fail
    refine (HF.out _ (below_alloc (Below.refl _ _) _)).mono ?_
    rintro e w1 ⟨rfl, rfl⟩
    go_wp2_with fail
    refine bodyPost_ret (v := .tuple #[.agg #[.complex .f64 0 0, .complex .f64 0 0, .complex .f64 0 0, .complex .f64 0 0], .int .i64 f]) (by simp [results, Try.results31, go_sem]) rfl ⟨?_, (Below.refl _ _).alloc (Nat.le_refl _) _⟩
    rw [HQV.out, H0.out.1, H0.out.2, H1.out.1, H1.out.2, H2.out.1, H2.out.2, H3.out.1, H3.out.2]
  case pos =>
    have H0 := Aside0.mk (qA_good hf 0)
    have H1 := Aside0.mk (qA_good hf 1)
    have H2 := Aside0.mk (qA_good hf 2)
    have H3 := Aside0.mk (qA_good hf 3)
    obtain ⟨hlen, hz⟩ := fault_good hf
    have HZ := Aside0.mk hz
    rw [hf] at HF HQV
    have HSB := Aside0.mk (fun j => sJ_bound hz j)
    clear hf hz
    go_enter Try.func31, Try.ntmps31
    go_wp2_with fail
    refine (HF.out _ (below_alloc (Below.refl _ _) _)).mono ?_
    rintro e w1 ⟨rfl, rfl⟩
    clear HF
    go_wp2_with fail
    go_loopw [6, 7, 17] (fun v6 v7 v17 wr => ∃ k : Nat, k ≤ zs.length ∧ v17 = .int .i64 k ∧ wr = (w.alloc (.cells #[.complex .f64 0 0, .complex .f64 0 0, .complex .f64 0 0, .complex .f64 0 0] 38 (0, 0))).alloc (.cells #[.int .i64 (sJ zs 0 k), .int .i64 (sJ zs 1 k), .int .i64 (sJ zs 2 k), .int .i64 (sJ zs 3 k)] 116 (0, 0))) (fun _ _ v17 _ => zs.length - (intOf v17).toNat)
    case atStart => exact ⟨0, Nat.zero_le _, rfl, rfl⟩
    case round =>
      obtain ⟨k, hk, rfl, rfl⟩ := hrel
      obtain ⟨p0, q0⟩ := HSB.out 0 k hk
      obtain ⟨p1, q1⟩ := HSB.out 1 k hk
      obtain ⟨p2, q2⟩ := HSB.out 2 k hk
      obtain ⟨p3, q3⟩ := HSB.out 3 k hk
      by_cases hlt : k < zs.length
      · obtain ⟨ad, eA, hcA⟩ := at_num (Kd.C_below HA.out (below_alloc (below_alloc (Below.refl _ _) (.cells #[.complex .f64 0 0, .complex .f64 0 0, .complex .f64 0 0, .complex .f64 0 0] 38 (0, 0))) (.cells #[.int .i64 (sJ zs 0 k), .int .i64 (sJ zs 1 k), .int .i64 (sJ zs 2 k), .int .i64 (sJ zs 3 k)] 116 (0, 0)))) k hlt
        obtain ⟨z1, z2⟩ := HZ.out zs[k] (List.getElem_mem hlt)
        have i0 : (0 : Int) ≤ (k : Int) := by omega
        have i1 : (k : Int) < (zs.length : Int) := by omega
        have hr : k % 4 = 0 ∨ k % 4 = 1 ∨ k % 4 = 2 ∨ k % 4 = 3 := by omega
        rcases hr with hr | hr | hr | hr
        · have e4 : ((k : Int) % 4) = 0 := by omega
          have N0 := Aside0.mk (sJ_yes (j := 0) hlt hr)
          have N1 := Aside0.mk (sJ_no (zs := zs) (j := 1) (k := k) (by omega))
          have N2 := Aside0.mk (sJ_no (zs := zs) (j := 2) (k := k) (by omega))
          have N3 := Aside0.mk (sJ_no (zs := zs) (j := 3) (k := k) (by omega))
          clear hr
          generalize zs[k] = z at *
          generalize hs0 : sJ zs 0 k = s0 at *
          clear hs0
          generalize hs1 : sJ zs 1 k = s1 at *
          clear hs1
          generalize hs2 : sJ zs 2 k = s2 at *
          clear hs2
          generalize hs3 : sJ zs 3 k = s3 at *
          clear hs3
          subst eA
          have i2 : s0 ≤ 4503599627370496 := by omega
          go_wp2_with fail
          go_roundw
          case rel => exact ⟨k + 1, by omega, by go_num, by rw [N0.out, N1.out, N2.out, N3.out]⟩
          case measure => simp [intOf]; omega
        · have e4 : ((k : Int) % 4) = 1 := by omega
          have N0 := Aside0.mk (sJ_no (zs := zs) (j := 0) (k := k) (by omega))
          have N1 := Aside0.mk (sJ_yes (j := 1) hlt hr)
          have N2 := Aside0.mk (sJ_no (zs := zs) (j := 2) (k := k) (by omega))
          have N3 := Aside0.mk (sJ_no (zs := zs) (j := 3) (k := k) (by omega))
          clear hr
          generalize zs[k] = z at *
          generalize hs0 : sJ zs 0 k = s0 at *
          clear hs0
          generalize hs1 : sJ zs 1 k = s1 at *
          clear hs1
          generalize hs2 : sJ zs 2 k = s2 at *
          clear hs2
          generalize hs3 : sJ zs 3 k = s3 at *
          clear hs3
          subst eA
          have i2 : s1 ≤ 4503599627370496 := by omega
          go_wp2_with fail
          go_roundw
          case rel => exact ⟨k + 1, by omega, by go_num, by rw [N0.out, N1.out, N2.out, N3.out]⟩
          case measure => simp [intOf]; omega
        · have e4 : ((k : Int) % 4) = 2 := by omega
          have N0 := Aside0.mk (sJ_no (zs := zs) (j := 0) (k := k) (by omega))
          have N1 := Aside0.mk (sJ_no (zs := zs) (j := 1) (k := k) (by omega))
          have N2 := Aside0.mk (sJ_yes (j := 2) hlt hr)
          have N3 := Aside0.mk (sJ_no (zs := zs) (j := 3) (k := k) (by omega))
          clear hr
          generalize zs[k] = z at *
          generalize hs0 : sJ zs 0 k = s0 at *
          clear hs0
          generalize hs1 : sJ zs 1 k = s1 at *
          clear hs1
          generalize hs2 : sJ zs 2 k = s2 at *
          clear hs2
          generalize hs3 : sJ zs 3 k = s3 at *
          clear hs3
          subst eA
          have i2 : s2 ≤ 4503599627370496 := by omega
          go_wp2_with fail
          go_roundw
          case rel => exact ⟨k + 1, by omega, by go_num, by rw [N0.out, N1.out, N2.out, N3.out]⟩
          case measure => simp [intOf]; omega
        · have e4 : ((k : Int) % 4) = 3 := by omega
          have N0 := Aside0.mk (sJ_no (zs := zs) (j := 0) (k := k) (by omega))
          have N1 := Aside0.mk (sJ_no (zs := zs) (j := 1) (k := k) (by omega))
          have N2 := Aside0.mk (sJ_no (zs := zs) (j := 2) (k := k) (by omega))
          have N3 := Aside0.mk (sJ_yes (j := 3) hlt hr)
          clear hr
          generalize zs[k] = z at *
          generalize hs0 : sJ zs 0 k = s0 at *
          clear hs0
          generalize hs1 : sJ zs 1 k = s1 at *
          clear hs1
          generalize hs2 : sJ zs 2 k = s2 at *
          clear hs2
          generalize hs3 : sJ zs 3 k = s3 at *
          clear hs3
          subst eA
          have i2 : s3 ≤ 4503599627370496 := by omega
          go_wp2_with fail
          go_roundw
          case rel => exact ⟨k + 1, by omega, by go_num, by rw [N0.out, N1.out, N2.out, N3.out]⟩
          case measure => simp [intOf]; omega
      · obtain rfl : k = zs.length := by omega
        have HR0 := Aside0.mk (show quRe zs zs.length 0 = sJ zs 0 zs.length + sJ zs 1 zs.length + sJ zs 2 zs.length + sJ zs 3 zs.length ∧ quIm zs zs.length 0 = 0 from ⟨rfl, rfl⟩)
        have HR1 := Aside0.mk (show quRe zs zs.length 1 = sJ zs 0 zs.length - sJ zs 2 zs.length ∧ quIm zs zs.length 1 = sJ zs 3 zs.length - sJ zs 1 zs.length from ⟨rfl, rfl⟩)
        have HR2 := Aside0.mk (show quRe zs zs.length 2 = sJ zs 0 zs.length - sJ zs 1 zs.length + sJ zs 2 zs.length - sJ zs 3 zs.length ∧ quIm zs zs.length 2 = 0 from ⟨rfl, rfl⟩)
        have HR3 := Aside0.mk (show quRe zs zs.length 3 = sJ zs 0 zs.length - sJ zs 2 zs.length ∧ quIm zs zs.length 3 = sJ zs 1 zs.length - sJ zs 3 zs.length from ⟨rfl, rfl⟩)
        have b0 : sJ zs 0 zs.length ≤ 4503599627370496 := by omega
        have b1 : sJ zs 1 zs.length ≤ 4503599627370496 := by omega
        have b2 : sJ zs 2 zs.length ≤ 4503599627370496 := by omega
        have b3 : sJ zs 3 zs.length ≤ 4503599627370496 := by omega
        clear q0 q1 q2 q3
        generalize sJ zs 0 zs.length = s0 at *
        generalize sJ zs 1 zs.length = s1 at *
        generalize sJ zs 2 zs.length = s2 at *
        generalize sJ zs 3 zs.length = s3 at *
        have m1 : IntKind.i64.wrap (s0 + s1) = s0 + s1 := Go.IntWalk.i64_in _ (by omega)
        have m2 : IntKind.i64.wrap (s0 + s1 + s2) = s0 + s1 + s2 := Go.IntWalk.i64_in _ (by omega)
        have m3 : IntKind.i64.wrap (s0 + s1 + s2 + s3) = s0 + s1 + s2 + s3 := Go.IntWalk.i64_in _ (by omega)
        have m4 : IntKind.i64.wrap (s0 - s2) = s0 - s2 := Go.IntWalk.i64_in _ (by omega)
        have m5 : IntKind.i64.wrap (s3 - s1) = s3 - s1 := Go.IntWalk.i64_in _ (by omega)
        have m6 : IntKind.i64.wrap (s0 - s1) = s0 - s1 := Go.IntWalk.i64_in _ (by omega)
        have m7 : IntKind.i64.wrap (s0 - s1 + s2) = s0 - s1 + s2 := Go.IntWalk.i64_in _ (by omega)
        have m8 : IntKind.i64.wrap (s0 - s1 + s2 - s3) = s0 - s1 + s2 - s3 := Go.IntWalk.i64_in _ (by omega)
        have m9 : IntKind.i64.wrap (s1 - s3) = s1 - s3 := Go.IntWalk.i64_in _ (by omega)
        go_wp2_with fail
        go_region_held3 (fun w' => w'.cell? ⟨w.heap.size + 1, 0, none⟩ = some (.int .i64 s0) ∧ w'.cell? ⟨w.heap.size + 1, 1, none⟩ = some (.int .i64 s1) ∧ w'.cell? ⟨w.heap.size + 1, 2, none⟩ = some (.int .i64 s2) ∧ w'.cell? ⟨w.heap.size + 1, 3, none⟩ = some (.int .i64 s3)) (go_keep) (first | (go_at_call 57; refine (cnum_calls _ _ _).mono ?_; rintro e w1 ⟨rfl, rfl⟩))
        all_goals
          go_wp2_with fail
          refine bodyPost_ret (v := .tuple #[.agg #[.complex .f64 (F (s0 + s1 + s2 + s3)) (F 0), .complex .f64 (F (s0 - s2)) (F (s3 - s1)), .complex .f64 (F (s0 - s1 + s2 - s3)) (F 0), .complex .f64 (F (s0 - s2)) (F (s1 - s3))], .int .i64 0]) (by simp [results, Try.results31, go_sem]) rfl ⟨?_, ?_⟩
          · rw [HQV.out, H0.out.1, H0.out.2, H1.out.1, H1.out.2, H2.out.1, H2.out.2, H3.out.1, H3.out.2, HR0.out.1, HR0.out.2, HR1.out.1, HR1.out.2, HR2.out.1, HR2.out.2, HR3.out.1, HR3.out.2]
          · exact below_drew (below_alloc (below_alloc (Below.refl _ _) _) _)
end Go.Proofs.Ytoopoecopahcbaa.Fl
