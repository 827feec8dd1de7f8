/- WheelMoved: the contract of the law. No condition but the reach. -/
import Derived.Test.YtaefbibkkkglnaaWhK
import Derived.OpenShut
namespace Go.Proofs.Ytaefbibkkkglnaa.Wh
open Go Go.RowKit Go.Proofs.YtaefbibkkkglnaaW.PrintWords Go.Proofs.Ytaefbibkkkglnaa.Mp Go.Proofs.Ytaefbibkkkglnaa.Fr
set_option linter.unusedVariables false
set_option linter.unusedSimpArgs false
theorem dr_step {w w1 : World} (h : ∃ q, w1 = w.drewN q) : ∃ q, w1.drew = w.drewN q := by
  obtain ⟨q, rfl⟩ := h
  exact ⟨q + 1, rfl⟩
theorem dr_stepN {w w1 : World} {n : Nat} (h : ∃ q, w1 = w.drewN q) : ∃ q, w1.drewN n = w.drewN q := by
  obtain ⟨q, rfl⟩ := h
  exact drewN_of rfl rfl rfl rfl (by show w.drawn ≤ w.drawn + q + n; omega)
theorem dr_ex {w w1 : World} (h : ∃ q, w1 = w.drewN q) : ∃ q, w1 = w.drewN q := h
set_option maxRecDepth 100000 in
set_option maxHeartbeats 4000000 in
theorem moved_true (x0 : Int) (A1 : Option Addr) (c1 : Nat) (far : List Int) (x2 x3 : Int) (w : World) (h1 : Kd.C (Kd.int .i64) w A1 far.length far) (hc1 : far.length ≤ c1)
    (hx0 : -9223372036854775808 ≤ x0 ∧ x0 ≤ 9223372036854775807) (hx2 : -9223372036854775808 ≤ x2 ∧ x2 ≤ 9223372036854775807) (hx3 : -9223372036854775808 ≤ x3 ∧ x3 ≤ 9223372036854775807) (hf : ∀ x ∈ far, -9223372036854775808 ≤ x ∧ x ≤ 9223372036854775807) (hcc : far.length ≤ 4611686018427387904) :
    Calls Try.prog 6 #[.int .i64 x0, .slice A1 far.length c1, .int .i64 x2, .int .i64 x3] w fun e w' => e = .returned (.bool true) ∧ Below w.heap.size w w' := by
  have hb0 := winF_bd (lo := 0) (hi := 549755813887) hx0.1 hx0.2 (by omega)
  have hb3 := winF_bd (lo := 0) (hi := 549755813888) hx3.1 hx3.2 (by omega)
  have hfl : (far.take 400).length = min far.length 400 := by rw [List.length_take]; omega
  have h1' := Kd.C_take (m := min far.length 400) h1 (by omega)
  rw [show far.take (min far.length 400) = far.take 400 from by rw [List.take_eq_take_iff]; omega] at h1'
  have hf' : ∀ x ∈ far.take 400, -9223372036854775808 ≤ x ∧ x ≤ 9223372036854775807 := fun x hx => hf x (List.mem_of_mem_take hx)
  have HF := Aside0.mk (show ∀ w, Calls Try.prog 11 #[.slice A1 far.length c1] w fun e w' => e = .returned (.slice A1 (far.take 400).length c1) ∧ w = w' from fun w => by rw [hfl]; exact few_calls A1 far.length c1 w hc1 hcc)
  generalize hfs : far.take 400 = fs at *
  have hfs4 : fs.length ≤ 400 := by omega
  have hfsc : fs.length ≤ c1 := by omega
  have H1 := Aside0.mk h1'
  have HN := Aside0.mk (show ∀ w, Calls Try.prog 10 #[.int .i64 x0, .int .i64 0, .int .i64 549755813887] w fun e w' => e = .returned (.int .i64 (winF x0 0 549755813887)) ∧ w = w' from fun w => within_calls x0 0 549755813887 w hx0.1 hx0.2 (by omega) (by omega) (by omega))
  have HT := Aside0.mk (show ∀ w, Calls Try.prog 10 #[.int .i64 x3, .int .i64 0, .int .i64 549755813888] w fun e w' => e = .returned (.int .i64 (winF x3 0 549755813888)) ∧ w = w' from fun w => within_calls x3 0 549755813888 w hx3.1 hx3.2 (by omega) (by omega) (by omega))
  generalize winF x0 0 549755813887 = now at *
  generalize winF x3 0 549755813888 = to' at *
  obtain ⟨n0, n1⟩ := hb0
  obtain ⟨t0, t1⟩ := hb3
  have HFS := Aside0.mk hf'
  clear h1 h1' hf hf' hfs hfl hc1 hx0 hx3 hcc
  have ew1 : IntKind.i64.wrap (now + 1) = now + 1 := IntWalk.i64_in _ (by omega)
  go_enter Try.func6, Try.ntmps6
  go_wp2_with fail
  refine (HN.out _).mono ?_
  rintro e w' ⟨rfl, rfl⟩
  go_wp2_with fail
  refine (HF.out _).mono ?_
  rintro e w' ⟨rfl, rfl⟩
  go_wp2_with fail
  refine (filled_calls now A1 c1 fs w n0 (by omega) HFS.out H1.out hfs4 hfsc).mono ?_
  rintro e w1 hF1
  obtain ⟨p1, O1, rfl, -, -, hB1⟩ := id hF1
  have HF1 := Aside0.mk hF1
  have HB1 := Aside0.mk hB1
  clear hF1 hB1
  go_wp2_with fail
  refine (filled_calls now A1 c1 fs _ n0 (by omega) HFS.out (Kd.C_below H1.out HB1.out) hfs4 hfsc).mono ?_
  rintro e w2 hF2
  obtain ⟨q1, q2, e1, e2, hT⟩ := filled_two HF1.out hF2
  injection e1 with e1
  injection e1 with e1
  injection e1 with e1
  injection e1 with e1
  subst e1
  subst e2
  have HT2 := Aside0.mk hT
  clear hF2 hT HF1 HB1
  rcases Nat.eq_zero_or_pos fs.length with hz | hz
  · have hL : fillL now fs fs.length = [] := List.eq_nil_of_length_eq_zero (by rw [fillL_len]; exact hz)
    rw [hL] at HT2
    have ef : findE [] ⟨#[97]⟩ = 7 := by decide
    have ec : changeE now [] ⟨#[97]⟩ (now + 1) = 7 := by unfold changeE; rw [if_neg (by rw [ef]; decide)]; exact ef
    have hlz : (fs.length : Int) = 0 := by omega
    have EF := Aside0.mk ef
    have EC := Aside0.mk ec
    clear ef ec
    go_wp2_with fail
    refine (HT2.out.change ⟨#[97]⟩ (now + 1) (by decide)).mono ?_
    rintro e w3 ⟨rfl, hT3⟩
    rw [EC.out]
    have hcl : changeL now [] ⟨#[97]⟩ (now + 1) = [] := by unfold changeL; rw [if_neg (by rw [EC.out]; decide)]
    rw [hcl] at hT3
    have HT3 := Aside0.mk hT3
    clear hT3 hcl
    go_wp2_with fail
    refine (HT3.out.remove ⟨#[97]⟩ (by decide)).mono ?_
    rintro e w4 ⟨rfl, hT4⟩
    rw [EF.out]
    have HT4 := Aside0.mk hT4
    clear hT4
    go_wp2_with fail
    go_ret
    obtain ⟨_, _, _, _, _, _, _, hb⟩ := HT4.out
    exact ⟨rfl, hb⟩
  · have hsort : Sorted (fillL now fs fs.length) := by obtain ⟨_, _, a, _⟩ := HT2.out; exact a.sorted
    have hnd : ((fillL now fs fs.length).map Prod.fst).Nodup := by obtain ⟨_, _, a, _⟩ := HT2.out; exact a.nodup
    have hb2 := winF_bd (lo := 0) (hi := (fs.length : Int) - 1) hx2.1 hx2.2 (by omega)
    have HK := Aside0.mk (show ∀ w, Calls Try.prog 10 #[.int .i64 x2, .int .i64 0, .int .i64 ((fs.length : Int) - 1)] w fun e w' => e = .returned (.int .i64 (winF x2 0 ((fs.length : Int) - 1))) ∧ w = w' from fun w => within_calls x2 0 _ w hx2.1 hx2.2 (by omega) (by omega) (by omega))
    obtain ⟨k, hk⟩ : ∃ k : Nat, winF x2 0 ((fs.length : Int) - 1) = (k : Int) := ⟨(winF x2 0 ((fs.length : Int) - 1)).toNat, by omega⟩
    rw [hk] at HK hb2
    clear hk
    have hkn : k < fs.length := by omega
    have hin := fillL_in (now := now) (fs := fs) hkn
    obtain ⟨T0, ys, zs, hM⟩ := moved_ok (t := now + 1 + to') hsort hnd (nm_good (n := k) (by omega)) hin n0 (by omega) (by omega)
    have hLlen := fillL_len now fs fs.length
    have hlate := fillL_late (now := now) (k := fs.length) (Nat.le_refl _) HFS.out
    have hids : (nm k).size = 3 := (nm_ok (n := k) (by omega)).1
    have HNM := Aside0.mk (show ∀ w, Calls Try.prog 15 #[.int .i64 k] w fun e w' => e = .returned (.string (nm k)) ∧ ∃ q, w' = w.drewN q from fun w => name_calls k w (by omega))
    generalize fillL now fs fs.length = L at *
    generalize nm k = id at *
    generalize putF (id, now + 1 + to') (cutF id L) = LW at *
    generalize cutF id L = LX at *
    have e3 : IntKind.i64.wrap (now + 1 + to') = now + 1 + to' := IntWalk.i64_in _ (by omega)
    have htn : now < now + 1 + to' ∧ now + 1 + to' ≤ 1099511627776 := by omega
    have e5 : IntKind.i64.wrap ((fs.length : Int) - 1) = (fs.length : Int) - 1 := IntWalk.i64_in _ (by omega)
    have e6 : ((fs.length : Int) == 0) = false := by rw [beq_eq_false_iff_ne]; omega
    have HM := Aside0.mk hM
    have l1 := hM.lw
    have l2 := hM.lx
    clear hM hsort hnd hin hlate
    go_wp2_with fail
    refine (HK.out _).mono ?_
    rintro e w' ⟨rfl, rfl⟩
    go_wp2_with fail
    refine (HT.out _).mono ?_
    rintro e w' ⟨rfl, rfl⟩
    go_wp2_with fail
    generalize now + 1 + to' = t at *
    obtain ⟨tn0, tn1⟩ := htn
    have e4 : IntKind.i64.wrap (t - 1) = t - 1 := IntWalk.i64_in _ (by omega)
    refine (HNM.out _).mono ?_
    rintro e w' ⟨rfl, n2, rfl⟩
    go_wp2_with fail
    refine ((HT2.out.drewN n2).change id t (by omega)).mono ?_
    rintro e w3 ⟨rfl, hT3⟩
    rw [HM.out.cl] at hT3
    rw [HM.out.ce]
    have HT3 := Aside0.mk hT3
    clear hT3 HT2
    go_wp2_with fail
    refine (HNM.out _).mono ?_
    rintro e w' ⟨rfl, n3, rfl⟩
    go_wp2_with fail
    refine ((HT3.out.drewN n3).at id (by omega)).mono ?_
    rintro e w4 ⟨rfl, hT4⟩
    rw [HM.out.ae, HM.out.av]
    have HT4 := Aside0.mk hT4
    clear hT4 HT3
    go_wp2_with fail
    refine (HNM.out _).mono ?_
    rintro e w' ⟨rfl, n4, rfl⟩
    go_wp2_with fail
    refine ((HT4.out.drewN n4).swap.remove id (by omega)).mono ?_
    rintro e w5 ⟨rfl, hT5⟩
    rw [HM.out.rl] at hT5
    rw [HM.out.re]
    have HT5 := Aside0.mk hT5
    clear hT5 HT4
    go_wp2_with fail
    refine (HNM.out _).mono ?_
    rintro e w' ⟨rfl, n5, rfl⟩
    go_wp2_with fail
    refine ((HT5.out.drewN n5).at id (by omega)).mono ?_
    rintro e w6 ⟨rfl, hT6⟩
    rw [HM.out.xe]
    generalize atV LX id = av at *
    have HT6 := Aside0.mk hT6
    clear hT6 HT5
    have l3 : (LW.length : Int) = fs.length := by omega
    have l4 : (LX.length : Int) = (fs.length : Int) - 1 := by omega
    go_wp2_with fail
    refine (HT6.out.swap.len).mono ?_
    rintro e w' ⟨rfl, rfl⟩
    rw [l3]
    go_wp2_with fail
    refine (HT6.out.len).mono ?_
    rintro e w' ⟨rfl, rfl⟩
    rw [l4]
    go_wp2_with fail
    obtain ⟨OX, OW, hX, hW, hdis, hoX, hoW, hB⟩ := HT6.out
    have HB := Aside0.mk hB
    have HD := Aside0.mk hdis
    have HGX := Aside0.mk hoX
    have HGW := Aside0.mk hoW
    have HX := Aside0.mk hX
    have HLW := Aside0.mk hW.lt
    have HLX := Aside0.mk hX.lt
    clear hdis hoX hoW hX hB HT6
    have HW := Aside0.mk hW
    have h1t := HM.out.tw
    have h2t := HM.out.tx
    clear hW
    have lt0 := HM.out.t0
    have lyz := HM.out.yz
    refine (advance_calls HW.out (t - 1) (by omega) (by omega) (by omega)).mono ?_
    rintro e w7 ⟨v20, rfl, hR7, hW7, hO7⟩
    rw [h1t] at hR7
    have HR7 := Aside0.mk hR7
    have HW7 := Aside0.mk hW7
    have HO7 := Aside0.mk hO7
    clear hR7 hW7 hO7 h1t
    go_wp2_with fail
    refine (advance_calls (HX.out.only HO7.out (fun b h1 _ h2 => HD.out b h1 h2)) (t - 1) (by omega) (by omega) (by omega)).mono ?_
    rintro e w8 ⟨v21, rfl, hR8, hX8, hO8⟩
    rw [h2t] at hR8
    have hr7 := R_over HR7.out hO8 HLX.out
    have HX8 := Aside0.mk hX8
    have HW8 := Aside0.mk (HW7.out.only hO8 (fun b h1 _ h2 => HD.out b h2 h1))
    have HB8 := Aside0.mk (show Below w.heap.size w w8 from hO8.below_of (HO7.out.below_of HB.out HB.out.size (fun k hk h => by have := HGW.out k h; omega)) (Nat.le_trans HB.out.size HO7.out.size) (fun k hk h => by have := HGX.out k h; omega))
    have HS8 := Aside0.mk (Nat.le_trans HO7.out.size hO8.size)
    obtain ⟨A7, c7, rfl, hc7, hC7⟩ := Kd.R_reads hr7
    obtain ⟨A8, c8, rfl, hc8, hC8⟩ := Kd.R_reads hR8
    have HC8 := Aside0.mk (And.intro hC7 hC8)
    clear hR8 hr7 hX8 hO8 hC7 hC8 HR7 h2t HX HW HW7 HO7
    go_wp2_with fail
    refine (texts_calls A7 A8 c7 c8 T0 _ HC8.out.1 HC8.out.2 hc7 hc8 (by omega)).mono ?_
    rintro e w' ⟨rfl, n8, rfl⟩
    go_wp2_with fail
    refine (advance_calls (HW8.out.drewN n8) t (by omega) (by omega) (by omega)).mono ?_
    rintro e w9 ⟨v20, rfl, hR9, hW9, hO9⟩
    rw [HM.out.uw] at hR9
    have HR9 := Aside0.mk hR9
    have HW9 := Aside0.mk hW9
    have HO9 := Aside0.mk (((Only.refl OW w8).drewN n8).trans hO9)
    clear hR9 hW9 hO9
    go_wp2_with fail
    refine (advance_calls (HX8.out.only HO9.out (fun b h1 _ h2 => HD.out b h1 h2)) t (by omega) (by omega) (by omega)).mono ?_
    rintro e w10 ⟨v21, rfl, hR10, hX10, hO10⟩
    rw [HM.out.ux] at hR10
    have hr9 := R_over HR9.out hO10 (fun b hb => Nat.lt_of_lt_of_le (HLX.out b hb) HS8.out)
    have HX10 := Aside0.mk hX10
    have HW10 := Aside0.mk (show Whl w10 OW p1 t (leftF t (leftF (t - 1) LX)) from HM.out.ll ▸ HW9.out.only hO10 (fun b h1 _ h2 => HD.out b h2 h1))
    have HB10 := Aside0.mk (show Below w.heap.size w w10 from hO10.below_of (HO9.out.below_of HB8.out HB8.out.size (fun k hk h => by have := HGW.out k h; omega)) (Nat.le_trans HB8.out.size HO9.out.size) (fun k hk h => by have := HGX.out k h; omega))
    have hxl : (ys ++ id :: zs).length = (ys ++ zs).length + 1 := by simp; omega
    have hyl : (ys ++ zs).length = ys.length + zs.length := by simp
    have HWK := Aside0.mk (walk_at HM.out.ny HM.out.nz)
    generalize hxs : ys ++ id :: zs = xs at *
    generalize hbs : ys ++ zs = bs at *
    obtain ⟨A9, c9, rfl, hc9, hC9⟩ := Kd.R_reads hr9
    obtain ⟨A10, c10, rfl, hc10, hC10⟩ := Kd.R_reads hR10
    have HC9 := Aside0.mk hC9
    have HC10 := Aside0.mk hC10
    generalize ys.length = m at *
    clear hR10 hr9 hX10 hO10 hC9 hC10 HR9 HW9 HO9 HC8 HX8 HW8
    have e10 : IntKind.i64.wrap ((bs.length : Int) + 1) = (bs.length : Int) + 1 := IntWalk.i64_in _ (by omega)
    have e11 : ((xs.length : Int) != (bs.length : Int) + 1) = false := by rw [bne_eq_false_iff_eq]; omega
    have HLL := Aside0.mk (And.intro hxl hyl)
    have hx4 : xs.length ≤ 401 ∧ bs.length ≤ 400 := by omega
    obtain ⟨hx41, hx42⟩ := hx4
    clear hxl hyl
    go_wp2_with fail
    go_loopg [22, 23] xs.length (fun g v22 v23 wx => ∃ (i : Nat), g = xs.length - i ∧ i ≤ xs.length ∧ v23 = .int .i64 i ∧ v22 = .int .i64 (jAt m i : Nat) ∧ Aside0 (∃ q, wx = w10.drewN q))
    case atStart => exact ⟨0, rfl, by omega, rfl, rfl, ⟨0, rfl⟩⟩
    case round =>
      obtain ⟨i, rfl, hi, rfl, rfl, HQ⟩ := hrel
      by_cases h : i < xs.length
      · obtain ⟨ad, rfl, cc1⟩ := at_S HC9.out i h
        have d0 : (0 : Int) ≤ (i : Int) := by omega
        have d1 : (i : Int) < (xs.length : Int) := by omega
        rcases HWK.out i h with ⟨hm, hx⟩ | ⟨hm, hj, hx, hne⟩
        · have cc2 : wr.cell? (ad.add i) = some (.string id) := by obtain ⟨q, hq⟩ := HQ.out; rw [hq]; exact hx ▸ cc1
          have hj : jAt m i = i ∧ jAt m (i + 1) = i := by have := HLL.out.1; unfold jAt; rw [if_pos (by omega), if_neg (by omega)]; omega
          have hee : (id.toList == id.toList) = true := by simp
          clear hx cc1 hm
          go_wp2_with fail
          go_region_held3 (fun w' => w'.cell? (ad.add i) = some (.string id)) (go_keep) (first
            | (go_at_call 15; refine (HNM.out _).mono ?_; rintro e w2 ⟨rfl, n1, rfl⟩))
          go_wp2_with fail
          go_roundg (xs.length - (i + 1))
          case measure => omega
          case rel =>
            refine ⟨i + 1, rfl, by omega, by go_num, by simp only [hj.1, hj.2], ⟨?_⟩⟩
            exact dr_ex (by repeat (first | exact HQ.out | apply dr_step | apply dr_stepN))
        · have cc2 : wr.cell? (ad.add i) = some (.string xs[i]) := by obtain ⟨q, hq⟩ := HQ.out; rw [hq]; exact cc1
          obtain ⟨bd, rfl, cb1⟩ := at_S HC10.out (jAt m i) hj
          have cb2 : wr.cell? (bd.add (jAt m i)) = some (.string xs[i]) := by obtain ⟨q, hq⟩ := HQ.out; rw [hq]; exact hx ▸ cb1
          have hjj : jAt m (i + 1) = jAt m i + 1 := by unfold jAt; split <;> split <;> omega
          have hen : (xs[i].toList == id.toList) = false := toList_ne hne
          have hee : (xs[i].toList == xs[i].toList) = true := by simp
          have hen2 : (xs[i].toList != xs[i].toList) = false := by simp
          generalize xs[i] = x at *
          clear hx cc1 cb1 hne
          have d2 : (0 : Int) ≤ (jAt m i : Int) := by omega
          have d3 : (jAt m i : Int) < (bs.length : Int) := by omega
          have d4 : decide ((bs.length : Int) ≤ (jAt m i : Int)) = false := by simp; omega
          generalize jAt m i = jj at *
          have e12 : IntKind.i64.wrap ((jj : Int) + 1) = ((jj + 1 : Nat) : Int) := by rw [IntWalk.i64_in _ (by omega)]; omega
          go_wp2_with fail
          go_region_held3 (fun w' => w'.cell? (ad.add i) = some (.string x) ∧ w'.cell? (bd.add jj) = some (.string x)) (go_keep) (first
            | (go_at_call 15; refine (HNM.out _).mono ?_; rintro e w2 ⟨rfl, n1, rfl⟩))
          go_wp2_with fail
          go_quiet (fail)
          go_wp2_with fail
          go_roundg (xs.length - (i + 1))
          case measure => omega
          case rel =>
            refine ⟨i + 1, rfl, by omega, by go_num, by rw [hjj]; rfl, ⟨?_⟩⟩
            exact dr_ex (by repeat (first | exact HQ.out | apply dr_step | apply dr_stepN))
      · obtain rfl : i = xs.length := by omega
        have hj : jAt m xs.length = bs.length := by have := HLL.out.1; have := HLL.out.2; unfold jAt; rw [if_neg (by omega)]; omega
        rw [hj]
        have HX11 : ∀ q, Whl (w10.drewN q) OX q2 t (leftF t (leftF (t - 1) LX)) := fun q => HX10.out.drewN q
        have HW11 : ∀ q, Whl (w10.drewN q) OW p1 t (leftF t (leftF (t - 1) LX)) := fun q => HW10.out.drewN q
        obtain ⟨q, hq⟩ := HQ.out
        have HXa := Aside0.mk (HX11 q)
        have HWa := Aside0.mk (HW11 q)
        have HBa := Aside0.mk (show Below w.heap.size w (w10.drewN q) from pw_below_drewN HB10.out q)
        rw [← hq] at HXa HWa HBa
        clear HX11 HW11 hq
        go_wp2_with fail
        refine (spread_calls HWa.out).mono ?_
        rintro e w12 ⟨rfl, hB12⟩
        have HB12 := Aside0.mk hB12
        clear hB12
        go_wp2_with fail
        refine (spread_calls (HXa.out.below HB12.out)).mono ?_
        rintro e w13 ⟨rfl, hB13⟩
        have HB13 := Aside0.mk hB13
        clear hB13
        generalize spr t (leftF t (leftF (t - 1) LX)) = sf at *
        have hq7 := eq7_same sf
        unfold sprV at hq7 ⊢
        go_wp2_with fail
        go_ret
        exact ⟨rfl, (HBa.out.trans (HB12.out.mono HBa.out.size)).trans (HB13.out.mono (Nat.le_trans HBa.out.size HB12.out.size))⟩
theorem moved_row (x0 : Int) (A1 : Option Addr) (c1 : Nat) (far : List Int) (x2 x3 : Int) (w : World) (h1 : Kd.C (Kd.int .i64) w A1 far.length far) (hc1 : far.length ≤ c1)
    (g0 : (Lit.int .i64 x0).wf = true) (g1 : (∀ z ∈ far, (Lit.int .i64 z).wf = true) ∧ far.length * 8 ≤ 140737488351232 ∧ far.length ≤ maxLen) (g2 : (Lit.int .i64 x2).wf = true) (g3 : (Lit.int .i64 x3).wf = true) :
    Calls Try.prog 6 #[.int .i64 x0, .slice A1 far.length c1, .int .i64 x2, .int .i64 x3] w fun e w' => e = .returned (.bool true) ∧ Below w.heap.size w w' :=
  moved_true x0 A1 c1 far x2 x3 w h1 hc1 (bounds_i64 g0) (bounds_i64 g2) (bounds_i64 g3) (fun x hx => bounds_i64 (g1.1 x hx)) (by have := g1.2.1; omega)
end Go.Proofs.Ytaefbibkkkglnaa.Wh
