-- PRINTED BY print.sh 35421559b90ae4d0a3588c463048766b98c2df88dd9212a6774a882060cdf62d: not written by this session
import Derived.Test.YtkjbbihnhbaipaaPLinUntilsx0
import Derived.Test.YtkjbbihnhbaipaaPLinUntilsx2
import Derived.Test.YtkjbbihnhbaipaaPLinUntilsx5
namespace Go.Proofs.Ytkjbbihnhbaipaa.PLinUntils
open Go.RowKit Go.Proofs.YtkjbbihnhbaipaaW.PrintWords Go.Proofs.YtkjbbihnhbaipaaW.PrintLast Go.Proofs.YtkjbbihnhbaipaaW.PrintMore
attribute [local go_sem] max2_int min2_int max_two min_two max_three min_three max_four min_four   -- for this text's walks alone
set_option linter.unusedVariables false
set_option linter.unusedSimpArgs false

attribute [local go_sem high] eqA42
/-! ### larderlaw16_kept: function 11 -/
mutual
def larderlaw16_kept.j0 : Nat → List (S35) → Bool → Option (Bool)
  | 0, _, _ => none
  | k + 1, x0, x24 => if x24 = true then (some false) else (larderlaw16_kept.l0 k x0 0)
def larderlaw16_kept.l0 : Nat → List (S35) → Int → Option (Bool)
  | 0, _, _ => none
  | k + 1, x0, x5 => if x5 < (x0.length : Int) then (if 0 ≤ x5 then (if 0 ≤ (wrap64 ((((rd_T35 x0 x5).f0.f2).length : Int) + 1)) then (if (wrap64 ((((rd_T35 x0 x5).f0.f2).length : Int) + 1)) ≤ (((rd_T35 x0 x5).f0.f2).length : Int) then ((some (((rd_T35 x0 x5).f0.f2).take ((wrap64 ((((rd_T35 x0 x5).f0.f2).length : Int) + 1)) : Int).toNat : List (S40))).bind fun y158 => (if 0 ≤ (((rd_T35 x0 x5).f0.f2).length : Int) then (if (((rd_T35 x0 x5).f0.f2).length : Int) < (y158.length : Int) then (if ((rd_T40 y158 (((rd_T35 x0 x5).f0.f2).length : Int)).f0).toList = ([109, 97, 114, 107] : List UInt8) then (if 0 ≤ (wrap64 ((((rd_T35 x0 x5).f1.f3).length : Int) + 1)) then (if (wrap64 ((((rd_T35 x0 x5).f1.f3).length : Int) + 1)) ≤ (((rd_T35 x0 x5).f1.f3).length : Int) then ((some (((rd_T35 x0 x5).f1.f3).take ((wrap64 ((((rd_T35 x0 x5).f1.f3).length : Int) + 1)) : Int).toNat : List (S42))).bind fun y163 => (if 0 ≤ (((rd_T35 x0 x5).f1.f3).length : Int) then (if (((rd_T35 x0 x5).f1.f3).length : Int) < (y163.length : Int) then (if ((rd_T42 y163 (((rd_T35 x0 x5).f1.f3).length : Int)).f0).toList = ([109, 97, 114, 107] : List UInt8) then (larderlaw16_kept.l0 k x0 (wrap64 (x5 + 1))) else (some false)) else (none)) else (none))) else (none)) else (none)) else (some false)) else (none)) else (none))) else (none)) else (none)) else (none)) else (some true)
end
def larderlaw16_kept.f (k : Nat) (l0 : List (S35)) (l1 : List (S35)) : Option (Bool) := (larderlaw16_sameOps.f k l0 l1).bind fun t150 => (if t150 = true then (if 0 ≤ (wrap64 ((l0.length : Int) + 1)) then (if (wrap64 ((l0.length : Int) + 1)) ≤ (l0.length : Int) then ((some (l0.take ((wrap64 ((l0.length : Int) + 1)) : Int).toNat : List (S35))).bind fun y151 => (if 0 ≤ (l0.length : Int) then (if (l0.length : Int) < (y151.length : Int) then (larderlaw16_kept.j0 k l0 (((rd_T35 y151 (l0.length : Int)).f2) != (-7))) else (none)) else (none))) else (none)) else (none)) else (larderlaw16_kept.j0 k l0 true))
theorem larderlaw16_kept.mono_l : ∀ k, (∀ y0 y1, LeO (larderlaw16_kept.j0 k y0 y1) (larderlaw16_kept.j0 (k + 1) y0 y1)) ∧ (∀ y0 y1, LeO (larderlaw16_kept.l0 k y0 y1) (larderlaw16_kept.l0 (k + 1) y0 y1))
  | 0 => ⟨fun _ _ r h => by simp [larderlaw16_kept.j0] at h, fun _ _ r h => by simp [larderlaw16_kept.l0] at h⟩
  | k + 1 => by
    obtain ⟨ih0, ih1⟩ := larderlaw16_kept.mono_l k
    refine ⟨?_, ?_⟩
    · intro y0 y1
      unfold larderlaw16_kept.j0
      repeat' first
      | (with_reducible exact ih0 _ _)
      | (with_reducible exact ih1 _ _)
      | (with_reducible exact larderlaw16_sameOps.mono _ _ _)
      | (with_reducible exact LeO.refl _)
      | (with_reducible exact LeO.none _)
      | (with_reducible refine LeO.ite ?_ ?_)
      | (with_reducible refine LeO.bind ?_ (fun _ => ?_))
      | exact ih0 _ _
      | exact ih1 _ _
      | exact larderlaw16_sameOps.mono _ _ _
      | exact LeO.none _
      | refine LeO.ite ?_ ?_
      | refine LeO.bind ?_ (fun _ => ?_)
    · intro y0 y1
      unfold larderlaw16_kept.l0
      repeat' first
      | (with_reducible exact ih0 _ _)
      | (with_reducible exact ih1 _ _)
      | (with_reducible exact larderlaw16_sameOps.mono _ _ _)
      | (with_reducible exact LeO.refl _)
      | (with_reducible exact LeO.none _)
      | (with_reducible refine LeO.ite ?_ ?_)
      | (with_reducible refine LeO.bind ?_ (fun _ => ?_))
      | exact ih0 _ _
      | exact ih1 _ _
      | exact larderlaw16_sameOps.mono _ _ _
      | exact LeO.none _
      | refine LeO.ite ?_ ?_
      | refine LeO.bind ?_ (fun _ => ?_)
theorem larderlaw16_kept.mono : ∀ a0 a1 k, LeO (larderlaw16_kept.f k a0 a1) (larderlaw16_kept.f (k + 1) a0 a1) := by
  intro a0 a1 k
  obtain ⟨ih0, ih1⟩ := larderlaw16_kept.mono_l k
  unfold larderlaw16_kept.f
  repeat' first
      | (with_reducible exact ih0 _ _)
      | (with_reducible exact ih1 _ _)
      | (with_reducible exact larderlaw16_sameOps.mono _ _ _)
      | (with_reducible exact LeO.refl _)
      | (with_reducible exact LeO.none _)
      | (with_reducible refine LeO.ite ?_ ?_)
      | (with_reducible refine LeO.bind ?_ (fun _ => ?_))
      | exact ih0 _ _
      | exact ih1 _ _
      | exact larderlaw16_sameOps.mono _ _ _
      | exact LeO.none _
      | refine LeO.ite ?_ ?_
      | refine LeO.bind ?_ (fun _ => ?_)
set_option maxHeartbeats 8000000 in
set_option maxRecDepth 100000 in
theorem larderlaw16_kept.calls (k : Nat) (A0 : Option Addr) (c0 : Nat) (l0 : List (S35)) (A1 : Option Addr) (c1 : Nat) (l1 : List (S35)) (r : Bool) (w : World) (hr0 : Kd.C k35 w A0 l0.length l0) (hc0 : l0.length ≤ c0) (hr1 : Kd.C k35 w A1 l1.length l1) (hc1 : l1.length ≤ c1) (h : larderlaw16_kept.f k l0 l1 = some r) :
    Calls Try.prog 11 #[.slice A0 l0.length c0, .slice A1 l1.length c1] w fun e w' => e = .returned (.bool r) ∧ Below w.heap.size w w' := by
  have HR0 := Aside0.mk hr0
  have HC0 := Aside0.mk hc0
  clear hr0 hc0
  have HR1 := Aside0.mk hr1
  have HC1 := Aside0.mk hc1
  clear hr1 hc1
  have HB := Aside0.mk (Below.refl w.heap.size w)
  have H : ((larderlaw16_sameOps.f k l0 l1).bind fun t150 => (if t150 = true then (if 0 ≤ (wrap64 ((l0.length : Int) + 1)) then (if (wrap64 ((l0.length : Int) + 1)) ≤ (l0.length : Int) then ((some (l0.take ((wrap64 ((l0.length : Int) + 1)) : Int).toNat : List (S35))).bind fun y151 => (if 0 ≤ (l0.length : Int) then (if (l0.length : Int) < (y151.length : Int) then (larderlaw16_kept.j0 k l0 (((rd_T35 y151 (l0.length : Int)).f2) != (-7))) else (none)) else (none))) else (none)) else (none)) else (larderlaw16_kept.j0 k l0 true))) = some r := h
  clear h
  have HC3 := Aside0.mk H
  clear H
  go_enter Try.func11, Try.ntmps11
  go_upto_region 1 with (fail)
  go_cut [24] (fun v24 wc => ∃ (kq : Nat) (x24_2 : Bool), v24 = .bool x24_2 ∧ Aside0 (larderlaw16_kept.j0 kq l0 x24_2 = some r) ∧ Aside0 (kq ≤ k) ∧ Aside0 (Below w.heap.size w wc))
  case first =>
    have H := HC3.out
    clear HC3
    replace H := Option.bind_eq_some_iff.mp H
    obtain ⟨t150, A40, H⟩ := H
    replace H : (if t150 = true then (if 0 ≤ (wrap64 ((l0.length : Int) + 1)) then (if (wrap64 ((l0.length : Int) + 1)) ≤ (l0.length : Int) then ((some (l0.take ((wrap64 ((l0.length : Int) + 1)) : Int).toNat : List (S35))).bind fun y151 => (if 0 ≤ (l0.length : Int) then (if (l0.length : Int) < (y151.length : Int) then (larderlaw16_kept.j0 k l0 (((rd_T35 y151 (l0.length : Int)).f2) != (-7))) else (none)) else (none))) else (none)) else (none)) else (larderlaw16_kept.j0 k l0 true)) = some r := H
    have A4 := Aside0.mk A40
    clear A40
    by_cases c5 : t150 = true
    · subst c5
      have H1 : (if 0 ≤ (wrap64 ((l0.length : Int) + 1)) then (if (wrap64 ((l0.length : Int) + 1)) ≤ (l0.length : Int) then ((some (l0.take ((wrap64 ((l0.length : Int) + 1)) : Int).toNat : List (S35))).bind fun y151 => (if 0 ≤ (l0.length : Int) then (if (l0.length : Int) < (y151.length : Int) then (larderlaw16_kept.j0 k l0 (((rd_T35 y151 (l0.length : Int)).f2) != (-7))) else (none)) else (none))) else (none)) else (none)) = some r := by rw [if_pos rfl] at H; exact H
      clear H
      have H := H1
      clear H1
      obtain ⟨ji6, hji6⟩ : ∃ j_ : Int, (wrap64 ((l0.length : Int) + 1)) = j_ := ⟨_, rfl⟩
      replace H : (if 0 ≤ (ji6) then (if (ji6) ≤ (l0.length : Int) then ((some (l0.take ((ji6) : Int).toNat : List (S35))).bind fun y151 => (if 0 ≤ (l0.length : Int) then (if (l0.length : Int) < (y151.length : Int) then (larderlaw16_kept.j0 k l0 (((rd_T35 y151 (l0.length : Int)).f2) != (-7))) else (none)) else (none))) else (none)) else (none)) = some r := by first | (rw [hji6] at H; exact H) | (simp only [hji6] at H ⊢; exact H)
      (try rw [hji6] at A4)
      have hji6w : (IntKind.i64.wrap ((l0.length : Int) + 1)) = ji6 := (i64_w _).trans hji6
      by_cases c7 : 0 ≤ (ji6)
      · rw [if_pos c7] at H
        have c7b0 := eq_true c7
        have c7b1 : decide (0 ≤ (ji6)) = true := decide_eq_true c7
        clear c7
        by_cases c8 : (ji6) ≤ (l0.length : Int)
        · rw [if_pos c8] at H
          have c8b0 := eq_true c8
          have c8b1 : decide ((ji6) ≤ (l0.length : Int)) = true := decide_eq_true c8
          clear c8
          obtain ⟨y151, hy151⟩ : ∃ y_ : List (S35), y_ = (l0.take ((ji6) : Int).toNat) := ⟨_, rfl⟩
          replace H : (if 0 ≤ (l0.length : Int) then (if (l0.length : Int) < (y151.length : Int) then (larderlaw16_kept.j0 k l0 (((rd_T35 y151 (l0.length : Int)).f2) != (-7))) else (none)) else (none)) = some r := by first | (rw [hy151]; with_reducible exact H) | (have H2_ := (Option.bind_some _ _).symm.trans H; rw [hy151]; with_reducible exact H2_) | (have H2_ := (Option.bind_some _ _).symm.trans H; with_reducible exact H2_) | with_reducible exact H | (rw [hy151]; exact H) | exact H
          have Ny151 := Aside0.mk hy151
          clear hy151
          by_cases c9 : 0 ≤ (l0.length : Int)
          · rw [if_pos c9] at H
            have c9b0 : decide (0 ≤ (l0.length : Int)) = true := decide_eq_true c9
            have c9b1 : decide (0 ≤ l0.length) = true := decide_eq_true (by omega)
            clear c9
            (first | rw [c9b0] | (simp only [i64_w, i32_w]; rw [c9b0]) | skip)
            by_cases c10 : (l0.length : Int) < (y151.length : Int)
            · rw [if_pos c10] at H
              have c10b0 : decide ((l0.length : Int) < (y151.length : Int)) = true := decide_eq_true c10
              have c10b1 : decide (l0.length < y151.length) = true := decide_eq_true (Int.ofNat_lt.mp c10)
              clear c10
              have H' := Aside0.mk H
              clear H
              go_wp2_with (first | ((with_reducible refine gate_callee (f := 14) rfl ?_); refine goesL_ (some 10) rfl rfl Try.func14 (by kernel_rfl) rfl #[.slice A0 l0.length c0, .slice A1 l1.length c1] rfl (by (try simp only [List.map_toArray, List.map_cons, List.map_nil]); first | done | rfl | (simp only [List.length_drop, List.length_take]; rfl)) ?_; (with_reducible refine (larderlaw16_sameOps.calls k _ _ l0 _ _ l1 true _ ?side1 ?side2 ?side3 ?side4 A4.out).mono ?_); (case side1 => repeat (first | exact (Kd.C_below HR0.out HB.out) | (with_reducible refine Kd.C_alloc ?_ _) | (with_reducible refine Kd.C_drewN ?_ _) | (with_reducible refine Kd.C_drew ?_))); (case side2 => exact HC0.out); (case side3 => repeat (first | exact (Kd.C_below HR1.out HB.out) | (with_reducible refine Kd.C_alloc ?_ _) | (with_reducible refine Kd.C_drewN ?_ _) | (with_reducible refine Kd.C_drew ?_))); (case side4 => exact HC1.out); rintro e w11 ⟨rfl, hb⟩; refine ⟨_, rfl, ?_⟩; have n0_ := Aside0.mk (below_step (by repeat (first | (with_reducible first | exact HB.out | apply below_alloc | apply pw_below_drewN | apply below_drew1) | exact HB.out)) hb); clear HB; have HB := n0_; clear n0_; (try clear hb); (try clear hb2); (try clear hk); (try clear hi); have q12 : ((ji6) : Int) ≤ ((l0.length : Int) : Int) := of_decide_eq_true (by first | (with_reducible assumption) | assumption); obtain ⟨i012, hi012, _, hsz12, _⟩ := info_parts info35; have hroom12 : l0.length ≤ c0 := HC0.out; have hC12 : Kd.C k35 _ A0 l0.length l0 := HR0.out; have hcut12 := cut_to (P := Try.prog) 22 35 .i64 Try.underlying22 hi012 A0 l0.length c0 (ji6) (of_decide_eq_true (by first | (with_reducible assumption) | assumption)) q12 hroom12; have hr12 := Kd.C_take (m := ((ji6) : Int).toNat) hC12 (by omega); have hy12 : y151.length = ((ji6) : Int).toNat := (by rw [Ny151.out, List.length_take]; omega); rw [← Ny151.out] at hr12; rw [← hy12] at hcut12; have HR154 := Aside0.mk hr12; have HC154 := Aside0.mk (show y151.length ≤ c0 from by omega); clear hr12 hC12 hroom12 hi012 hsz12; have KY12 := Aside0.mk hy12; clear hy12; replace q12 := eq_true q12; have p155 : 0 ≤ ((l0.length : Int) : Int) := of_decide_eq_true (by first | (with_reducible assumption) | assumption); have q155 : (l0.length : Int) < (y151.length : Int) := of_decide_eq_true (by first | (with_reducible assumption) | assumption); obtain ⟨ad155, A155_2, c155_2, A155_9, c155_9, e155, hx155_0, hx155_1, hx155_2, hx155_3, hx155_4, hx155_5, hx155_6, hx155_7, hx155_8, hx155_9, hx155_10, hx155_11, hx155_12, hx155_13, hl155_2, hi155_2, hl155_9, hi155_9⟩ := at_T35 HR154.out (l0.length : Int) p155 q155; cases e155; replace hx155_0 := (HB.out.cell (World.block_lt_of_cell? w _ hx155_0)).trans hx155_0; replace hx155_1 := (HB.out.cell (World.block_lt_of_cell? w _ hx155_1)).trans hx155_1; replace hx155_2 := (HB.out.cell (World.block_lt_of_cell? w _ hx155_2)).trans hx155_2; replace hx155_3 := (HB.out.cell (World.block_lt_of_cell? w _ hx155_3)).trans hx155_3; replace hx155_4 := (HB.out.cell (World.block_lt_of_cell? w _ hx155_4)).trans hx155_4; replace hx155_5 := (HB.out.cell (World.block_lt_of_cell? w _ hx155_5)).trans hx155_5; replace hx155_6 := (HB.out.cell (World.block_lt_of_cell? w _ hx155_6)).trans hx155_6; replace hx155_7 := (HB.out.cell (World.block_lt_of_cell? w _ hx155_7)).trans hx155_7; replace hx155_8 := (HB.out.cell (World.block_lt_of_cell? w _ hx155_8)).trans hx155_8; replace hx155_9 := (HB.out.cell (World.block_lt_of_cell? w _ hx155_9)).trans hx155_9; replace hx155_10 := (HB.out.cell (World.block_lt_of_cell? w _ hx155_10)).trans hx155_10; replace hx155_11 := (HB.out.cell (World.block_lt_of_cell? w _ hx155_11)).trans hx155_11; replace hx155_12 := (HB.out.cell (World.block_lt_of_cell? w _ hx155_12)).trans hx155_12; replace hx155_13 := (HB.out.cell (World.block_lt_of_cell? w _ hx155_13)).trans hx155_13; have HR155_2 := Aside0.mk hi155_2; have HC155_2 := Aside0.mk hl155_2; clear hi155_2 hl155_2; have HR155_9 := Aside0.mk hi155_9; have HC155_9 := Aside0.mk hl155_9; clear hi155_9 hl155_9; (try simp only [Go.IntWalk.toNatUp] at hx155_0); (try simp only [Go.IntWalk.toNatUp] at hx155_1); (try simp only [Go.IntWalk.toNatUp] at hx155_2); (try simp only [Go.IntWalk.toNatUp] at hx155_3); (try simp only [Go.IntWalk.toNatUp] at hx155_4); (try simp only [Go.IntWalk.toNatUp] at hx155_5); (try simp only [Go.IntWalk.toNatUp] at hx155_6); (try simp only [Go.IntWalk.toNatUp] at hx155_7); (try simp only [Go.IntWalk.toNatUp] at hx155_8); (try simp only [Go.IntWalk.toNatUp] at hx155_9); (try simp only [Go.IntWalk.toNatUp] at hx155_10); (try simp only [Go.IntWalk.toNatUp] at hx155_11); (try simp only [Go.IntWalk.toNatUp] at hx155_12); (try simp only [Go.IntWalk.toNatUp] at hx155_13); replace p155 := eq_true p155; replace q155 := eq_true q155))
              go_meet
              case rel => exact ⟨_, ((((rd_T35 y151 (l0.length : Int)).f2) != (-7))), (by first | rfl | (simp; done) | (simp [*]; done)), H', ⟨by first | omega | exact Nat.le_refl _⟩, ⟨by repeat (first | (with_reducible first | exact HB.out | apply below_alloc | apply pw_below_drewN | apply below_drew1) | exact HB.out)⟩⟩
            · rw [if_neg c10] at H
              exact absurd H (by simp)
          · rw [if_neg c9] at H
            exact absurd H (by simp)
        · rw [if_neg c8] at H
          exact absurd H (by simp)
      · rw [if_neg c7] at H
        exact absurd H (by simp)
    · replace c5 := Bool.eq_false_iff.mpr c5
      subst c5
      have H1 : (larderlaw16_kept.j0 k l0 true) = some r := by rw [if_neg (show ¬ (false = true) by decide)] at H; exact H
      clear H
      have H := H1
      clear H1
      have H' := Aside0.mk H
      clear H
      go_wp2_with (first | ((with_reducible refine gate_callee (f := 14) rfl ?_); refine goesL_ (some 10) rfl rfl Try.func14 (by kernel_rfl) rfl #[.slice A0 l0.length c0, .slice A1 l1.length c1] rfl (by (try simp only [List.map_toArray, List.map_cons, List.map_nil]); first | done | rfl | (simp only [List.length_drop, List.length_take]; rfl)) ?_; (with_reducible refine (larderlaw16_sameOps.calls k _ _ l0 _ _ l1 false _ ?side1 ?side2 ?side3 ?side4 A4.out).mono ?_); (case side1 => repeat (first | exact (Kd.C_below HR0.out HB.out) | (with_reducible refine Kd.C_alloc ?_ _) | (with_reducible refine Kd.C_drewN ?_ _) | (with_reducible refine Kd.C_drew ?_))); (case side2 => exact HC0.out); (case side3 => repeat (first | exact (Kd.C_below HR1.out HB.out) | (with_reducible refine Kd.C_alloc ?_ _) | (with_reducible refine Kd.C_drewN ?_ _) | (with_reducible refine Kd.C_drew ?_))); (case side4 => exact HC1.out); rintro e w13 ⟨rfl, hb⟩; refine ⟨_, rfl, ?_⟩; have n0_ := Aside0.mk (below_step (by repeat (first | (with_reducible first | exact HB.out | apply below_alloc | apply pw_below_drewN | apply below_drew1) | exact HB.out)) hb); clear HB; have HB := n0_; clear n0_; (try clear hb); (try clear hb2); (try clear hk); (try clear hi)))
      go_meet
      case rel => exact ⟨_, (true), (by first | rfl | (simp; done) | (simp [*]; done)), H', ⟨by first | omega | exact Nat.le_refl _⟩, ⟨by repeat (first | (with_reducible first | exact HB.out | apply below_alloc | apply pw_below_drewN | apply below_drew1) | exact HB.out)⟩⟩
  case rest =>
    clear HC3
    try clear c1
    try clear p1
    try clear q1
    try clear hx1
    try clear p2
    try clear c5
    try clear p6
    try clear c7
    try clear c7b0
    try clear c7b1
    try clear c8
    try clear c8b0
    try clear c8b1
    try clear c9
    try clear c9b0
    try clear c9b1
    try clear c10
    try clear c10b0
    try clear c10b1
    try clear c11
    try clear q12
    try clear hx155_0
    try clear hx155_1
    try clear hx155_10
    try clear hx155_11
    try clear hx155_12
    try clear hx155_13
    try clear hx155_2
    try clear hx155_3
    try clear hx155_4
    try clear hx155_5
    try clear hx155_6
    try clear hx155_7
    try clear hx155_8
    try clear hx155_9
    try clear p155
    try clear q12
    try clear q155
    obtain ⟨kq, x24_2, rfl, HA, HJ2, HB⟩ := hcut
    cases kq with
    | zero => exact absurd HA.out (by simp [larderlaw16_kept.j0])
    | succ kj2 =>
      have H := HA.out
      clear HA
      simp only [larderlaw16_kept.j0] at H
      by_cases c14 : x24_2 = true
      · subst c14
        have H1 : (some false) = some r := by rw [if_pos rfl] at H; exact H
        clear H
        have H := H1
        clear H1
        obtain rfl := Option.some.inj H
        go_wp2
        go_ret
        exact ⟨by first | rfl | (simp [errW_none, errW_some] <;> rfl) | (simp [*, errW_none, errW_some] <;> rfl), by repeat (first | (with_reducible first | exact HB.out | apply below_alloc | apply pw_below_drewN | apply below_drew1) | exact HB.out)⟩
      · replace c14 := Bool.eq_false_iff.mpr c14
        subst c14
        have H1 : (larderlaw16_kept.l0 kj2 l0 0) = some r := by rw [if_neg (show ¬ (false = true) by decide)] at H; exact H
        clear H
        have H := H1
        clear H1
        have H' := Aside0.mk H
        clear H
        go_wp2
        go_loopg [5] kj2 (fun kq v5 w' => ∃ (x5_2 : Int), v5 = .int .i64 x5_2 ∧ Aside0 (larderlaw16_kept.l0 kq l0 x5_2 = some r) ∧ Aside0 (kq ≤ kj2) ∧ Aside0 (Below w.heap.size w w'))
        case atStart => exact ⟨(0), (by first | rfl | (simp; done) | (simp [*]; done)), H', ⟨Nat.le_refl _⟩, ⟨by repeat (first | (with_reducible first | exact HB.out | apply below_alloc | apply pw_below_drewN | apply below_drew1) | exact HB.out)⟩⟩
        case round =>
          clear H'
          try clear c1
          try clear p1
          try clear q1
          try clear hx1
          try clear p2
          try clear c5
          try clear p6
          try clear c7
          try clear c7b0
          try clear c7b1
          try clear c8
          try clear c8b0
          try clear c8b1
          try clear c9
          try clear c9b0
          try clear c9b1
          try clear c10
          try clear c10b0
          try clear c10b1
          try clear c11
          try clear q12
          try clear c14
          try clear hx155_0
          try clear hx155_1
          try clear hx155_10
          try clear hx155_11
          try clear hx155_12
          try clear hx155_13
          try clear hx155_2
          try clear hx155_3
          try clear hx155_4
          try clear hx155_5
          try clear hx155_6
          try clear hx155_7
          try clear hx155_8
          try clear hx155_9
          try clear p1
          try clear p155
          try clear p2
          try clear p6
          try clear q1
          try clear q12
          try clear q155
          obtain ⟨x5_2, rfl, HA, HK2, HB⟩ := hrel
          cases gk with
          | zero => exact absurd HA.out (by simp [larderlaw16_kept.l0])
          | succ k2 =>
            have H := HA.out
            clear HA
            simp only [larderlaw16_kept.l0] at H
            by_cases c15 : x5_2 < (l0.length : Int)
            · rw [if_pos c15] at H
              have c15b0 : decide (x5_2 < (l0.length : Int)) = true := decide_eq_true c15
              clear c15
              by_cases c16 : 0 ≤ x5_2
              · rw [if_pos c16] at H
                have c16b0 : decide (0 ≤ x5_2) = true := decide_eq_true c16
                clear c16
                obtain ⟨ji17, hji17⟩ : ∃ j_ : Int, (wrap64 ((((rd_T35 l0 x5_2).f0.f2).length : Int) + 1)) = j_ := ⟨_, rfl⟩
                replace H : (if 0 ≤ (ji17) then (if (ji17) ≤ (((rd_T35 l0 x5_2).f0.f2).length : Int) then ((some (((rd_T35 l0 x5_2).f0.f2).take ((ji17) : Int).toNat : List (S40))).bind fun y158 => (if 0 ≤ (((rd_T35 l0 x5_2).f0.f2).length : Int) then (if (((rd_T35 l0 x5_2).f0.f2).length : Int) < (y158.length : Int) then (if ((rd_T40 y158 (((rd_T35 l0 x5_2).f0.f2).length : Int)).f0).toList = ([109, 97, 114, 107] : List UInt8) then (if 0 ≤ (wrap64 ((((rd_T35 l0 x5_2).f1.f3).length : Int) + 1)) then (if (wrap64 ((((rd_T35 l0 x5_2).f1.f3).length : Int) + 1)) ≤ (((rd_T35 l0 x5_2).f1.f3).length : Int) then ((some (((rd_T35 l0 x5_2).f1.f3).take ((wrap64 ((((rd_T35 l0 x5_2).f1.f3).length : Int) + 1)) : Int).toNat : List (S42))).bind fun y163 => (if 0 ≤ (((rd_T35 l0 x5_2).f1.f3).length : Int) then (if (((rd_T35 l0 x5_2).f1.f3).length : Int) < (y163.length : Int) then (if ((rd_T42 y163 (((rd_T35 l0 x5_2).f1.f3).length : Int)).f0).toList = ([109, 97, 114, 107] : List UInt8) then (larderlaw16_kept.l0 k2 l0 (wrap64 (x5_2 + 1))) else (some false)) else (none)) else (none))) else (none)) else (none)) else (some false)) else (none)) else (none))) else (none)) else (none)) = some r := by first | (rw [hji17] at H; exact H) | (simp only [hji17] at H ⊢; exact H)
                have hji17w : (IntKind.i64.wrap ((((rd_T35 l0 x5_2).f0.f2).length : Int) + 1)) = ji17 := (i64_w _).trans hji17
                by_cases c18 : 0 ≤ (ji17)
                · rw [if_pos c18] at H
                  have c18b0 := eq_true c18
                  have c18b1 : decide (0 ≤ (ji17)) = true := decide_eq_true c18
                  clear c18
                  by_cases c19 : (ji17) ≤ (((rd_T35 l0 x5_2).f0.f2).length : Int)
                  · rw [if_pos c19] at H
                    have c19b0 := eq_true c19
                    have c19b1 : decide ((ji17) ≤ (((rd_T35 l0 x5_2).f0.f2).length : Int)) = true := decide_eq_true c19
                    clear c19
                    obtain ⟨y158, hy158⟩ : ∃ y_ : List (S40), y_ = (((rd_T35 l0 x5_2).f0.f2).take ((ji17) : Int).toNat) := ⟨_, rfl⟩
                    replace H : (if 0 ≤ (((rd_T35 l0 x5_2).f0.f2).length : Int) then (if (((rd_T35 l0 x5_2).f0.f2).length : Int) < (y158.length : Int) then (if ((rd_T40 y158 (((rd_T35 l0 x5_2).f0.f2).length : Int)).f0).toList = ([109, 97, 114, 107] : List UInt8) then (if 0 ≤ (wrap64 ((((rd_T35 l0 x5_2).f1.f3).length : Int) + 1)) then (if (wrap64 ((((rd_T35 l0 x5_2).f1.f3).length : Int) + 1)) ≤ (((rd_T35 l0 x5_2).f1.f3).length : Int) then ((some (((rd_T35 l0 x5_2).f1.f3).take ((wrap64 ((((rd_T35 l0 x5_2).f1.f3).length : Int) + 1)) : Int).toNat : List (S42))).bind fun y163 => (if 0 ≤ (((rd_T35 l0 x5_2).f1.f3).length : Int) then (if (((rd_T35 l0 x5_2).f1.f3).length : Int) < (y163.length : Int) then (if ((rd_T42 y163 (((rd_T35 l0 x5_2).f1.f3).length : Int)).f0).toList = ([109, 97, 114, 107] : List UInt8) then (larderlaw16_kept.l0 k2 l0 (wrap64 (x5_2 + 1))) else (some false)) else (none)) else (none))) else (none)) else (none)) else (some false)) else (none)) else (none)) = some r := by first | (rw [hy158]; with_reducible exact H) | (have H2_ := (Option.bind_some _ _).symm.trans H; rw [hy158]; with_reducible exact H2_) | (have H2_ := (Option.bind_some _ _).symm.trans H; with_reducible exact H2_) | with_reducible exact H | (rw [hy158]; exact H) | exact H
                    have Ny158 := Aside0.mk hy158
                    clear hy158
                    by_cases c20 : 0 ≤ (((rd_T35 l0 x5_2).f0.f2).length : Int)
                    · rw [if_pos c20] at H
                      have c20b0 : decide (0 ≤ (((rd_T35 l0 x5_2).f0.f2).length : Int)) = true := decide_eq_true c20
                      have c20b1 : decide (0 ≤ ((rd_T35 l0 x5_2).f0.f2).length) = true := decide_eq_true (by omega)
                      clear c20
                      by_cases c21 : (((rd_T35 l0 x5_2).f0.f2).length : Int) < (y158.length : Int)
                      · rw [if_pos c21] at H
                        have c21b0 : decide ((((rd_T35 l0 x5_2).f0.f2).length : Int) < (y158.length : Int)) = true := decide_eq_true c21
                        have c21b1 : decide (((rd_T35 l0 x5_2).f0.f2).length < y158.length) = true := decide_eq_true (Int.ofNat_lt.mp c21)
                        clear c21
                        by_cases c22 : ((rd_T40 y158 (((rd_T35 l0 x5_2).f0.f2).length : Int)).f0).toList = ([109, 97, 114, 107] : List UInt8)
                        · rw [if_pos c22] at H
                          have c22b0 : (((rd_T40 y158 (((rd_T35 l0 x5_2).f0.f2).length : Int)).f0).toList == ([109, 97, 114, 107] : List UInt8)) = true := beq_iff_eq.mpr c22
                          have c22b1 : (((rd_T40 y158 (((rd_T35 l0 x5_2).f0.f2).length : Int)).f0).toList != ([109, 97, 114, 107] : List UInt8)) = false := bne_eq_false_iff_eq.mpr c22
                          clear c22
                          obtain ⟨ji23, hji23⟩ : ∃ j_ : Int, (wrap64 ((((rd_T35 l0 x5_2).f1.f3).length : Int) + 1)) = j_ := ⟨_, rfl⟩
                          replace H : (if 0 ≤ (ji23) then (if (ji23) ≤ (((rd_T35 l0 x5_2).f1.f3).length : Int) then ((some (((rd_T35 l0 x5_2).f1.f3).take ((ji23) : Int).toNat : List (S42))).bind fun y163 => (if 0 ≤ (((rd_T35 l0 x5_2).f1.f3).length : Int) then (if (((rd_T35 l0 x5_2).f1.f3).length : Int) < (y163.length : Int) then (if ((rd_T42 y163 (((rd_T35 l0 x5_2).f1.f3).length : Int)).f0).toList = ([109, 97, 114, 107] : List UInt8) then (larderlaw16_kept.l0 k2 l0 (wrap64 (x5_2 + 1))) else (some false)) else (none)) else (none))) else (none)) else (none)) = some r := by first | (rw [hji23] at H; exact H) | (simp only [hji23] at H ⊢; exact H)
                          have hji23w : (IntKind.i64.wrap ((((rd_T35 l0 x5_2).f1.f3).length : Int) + 1)) = ji23 := (i64_w _).trans hji23
                          by_cases c24 : 0 ≤ (ji23)
                          · rw [if_pos c24] at H
                            have c24b0 := eq_true c24
                            have c24b1 : decide (0 ≤ (ji23)) = true := decide_eq_true c24
                            clear c24
                            by_cases c25 : (ji23) ≤ (((rd_T35 l0 x5_2).f1.f3).length : Int)
                            · rw [if_pos c25] at H
                              have c25b0 := eq_true c25
                              have c25b1 : decide ((ji23) ≤ (((rd_T35 l0 x5_2).f1.f3).length : Int)) = true := decide_eq_true c25
                              clear c25
                              obtain ⟨y163, hy163⟩ : ∃ y_ : List (S42), y_ = (((rd_T35 l0 x5_2).f1.f3).take ((ji23) : Int).toNat) := ⟨_, rfl⟩
                              replace H : (if 0 ≤ (((rd_T35 l0 x5_2).f1.f3).length : Int) then (if (((rd_T35 l0 x5_2).f1.f3).length : Int) < (y163.length : Int) then (if ((rd_T42 y163 (((rd_T35 l0 x5_2).f1.f3).length : Int)).f0).toList = ([109, 97, 114, 107] : List UInt8) then (larderlaw16_kept.l0 k2 l0 (wrap64 (x5_2 + 1))) else (some false)) else (none)) else (none)) = some r := by first | (rw [hy163]; with_reducible exact H) | (have H2_ := (Option.bind_some _ _).symm.trans H; rw [hy163]; with_reducible exact H2_) | (have H2_ := (Option.bind_some _ _).symm.trans H; with_reducible exact H2_) | with_reducible exact H | (rw [hy163]; exact H) | exact H
                              have Ny163 := Aside0.mk hy163
                              clear hy163
                              by_cases c26 : 0 ≤ (((rd_T35 l0 x5_2).f1.f3).length : Int)
                              · rw [if_pos c26] at H
                                have c26b0 : decide (0 ≤ (((rd_T35 l0 x5_2).f1.f3).length : Int)) = true := decide_eq_true c26
                                have c26b1 : decide (0 ≤ ((rd_T35 l0 x5_2).f1.f3).length) = true := decide_eq_true (by omega)
                                clear c26
                                by_cases c27 : (((rd_T35 l0 x5_2).f1.f3).length : Int) < (y163.length : Int)
                                · rw [if_pos c27] at H
                                  have c27b0 : decide ((((rd_T35 l0 x5_2).f1.f3).length : Int) < (y163.length : Int)) = true := decide_eq_true c27
                                  have c27b1 : decide (((rd_T35 l0 x5_2).f1.f3).length < y163.length) = true := decide_eq_true (Int.ofNat_lt.mp c27)
                                  clear c27
                                  by_cases c28 : ((rd_T42 y163 (((rd_T35 l0 x5_2).f1.f3).length : Int)).f0).toList = ([109, 97, 114, 107] : List UInt8)
                                  · rw [if_pos c28] at H
                                    have c28b0 : (((rd_T42 y163 (((rd_T35 l0 x5_2).f1.f3).length : Int)).f0).toList == ([109, 97, 114, 107] : List UInt8)) = true := beq_iff_eq.mpr c28
                                    have c28b1 : (((rd_T42 y163 (((rd_T35 l0 x5_2).f1.f3).length : Int)).f0).toList != ([109, 97, 114, 107] : List UInt8)) = false := bne_eq_false_iff_eq.mpr c28
                                    clear c28
                                    have H' := Aside0.mk H
                                    clear H
                                    have p156 : 0 ≤ (x5_2 : Int) := of_decide_eq_true (by first | (with_reducible assumption) | assumption)
                                    have q156 : x5_2 < (l0.length : Int) := of_decide_eq_true (by first | (with_reducible assumption) | assumption)
                                    obtain ⟨ad156, A156_2, c156_2, A156_9, c156_9, e156, hx156_0, hx156_1, hx156_2, hx156_3, hx156_4, hx156_5, hx156_6, hx156_7, hx156_8, hx156_9, hx156_10, hx156_11, hx156_12, hx156_13, hl156_2, hi156_2, hl156_9, hi156_9⟩ := at_T35 HR0.out x5_2 p156 q156
                                    cases e156
                                    replace hx156_0 := (HB.out.cell (World.block_lt_of_cell? w _ hx156_0)).trans hx156_0
                                    replace hx156_1 := (HB.out.cell (World.block_lt_of_cell? w _ hx156_1)).trans hx156_1
                                    replace hx156_2 := (HB.out.cell (World.block_lt_of_cell? w _ hx156_2)).trans hx156_2
                                    replace hx156_3 := (HB.out.cell (World.block_lt_of_cell? w _ hx156_3)).trans hx156_3
                                    replace hx156_4 := (HB.out.cell (World.block_lt_of_cell? w _ hx156_4)).trans hx156_4
                                    replace hx156_5 := (HB.out.cell (World.block_lt_of_cell? w _ hx156_5)).trans hx156_5
                                    replace hx156_6 := (HB.out.cell (World.block_lt_of_cell? w _ hx156_6)).trans hx156_6
                                    replace hx156_7 := (HB.out.cell (World.block_lt_of_cell? w _ hx156_7)).trans hx156_7
                                    replace hx156_8 := (HB.out.cell (World.block_lt_of_cell? w _ hx156_8)).trans hx156_8
                                    replace hx156_9 := (HB.out.cell (World.block_lt_of_cell? w _ hx156_9)).trans hx156_9
                                    replace hx156_10 := (HB.out.cell (World.block_lt_of_cell? w _ hx156_10)).trans hx156_10
                                    replace hx156_11 := (HB.out.cell (World.block_lt_of_cell? w _ hx156_11)).trans hx156_11
                                    replace hx156_12 := (HB.out.cell (World.block_lt_of_cell? w _ hx156_12)).trans hx156_12
                                    replace hx156_13 := (HB.out.cell (World.block_lt_of_cell? w _ hx156_13)).trans hx156_13
                                    have HR156_2 := Aside0.mk hi156_2
                                    have HC156_2 := Aside0.mk hl156_2
                                    clear hi156_2 hl156_2
                                    have HR156_9 := Aside0.mk hi156_9
                                    have HC156_9 := Aside0.mk hl156_9
                                    clear hi156_9 hl156_9
                                    replace p156 := eq_true p156
                                    replace q156 := eq_true q156
                                    have p157 : 0 ≤ (x5_2 : Int) := of_decide_eq_true (by first | (with_reducible assumption) | assumption)
                                    have q157 : x5_2 < (l0.length : Int) := of_decide_eq_true (by first | (with_reducible assumption) | assumption)
                                    obtain ⟨ad157, A157_2, c157_2, A157_9, c157_9, e157, hx157_0, hx157_1, hx157_2, hx157_3, hx157_4, hx157_5, hx157_6, hx157_7, hx157_8, hx157_9, hx157_10, hx157_11, hx157_12, hx157_13, hl157_2, hi157_2, hl157_9, hi157_9⟩ := at_T35 HR0.out x5_2 p157 q157
                                    obtain rfl : ad156 = ad157 := (by injection e157)
                                    replace hx157_0 := (HB.out.cell (World.block_lt_of_cell? w _ hx157_0)).trans hx157_0
                                    replace hx157_1 := (HB.out.cell (World.block_lt_of_cell? w _ hx157_1)).trans hx157_1
                                    replace hx157_2 := (HB.out.cell (World.block_lt_of_cell? w _ hx157_2)).trans hx157_2
                                    replace hx157_3 := (HB.out.cell (World.block_lt_of_cell? w _ hx157_3)).trans hx157_3
                                    replace hx157_4 := (HB.out.cell (World.block_lt_of_cell? w _ hx157_4)).trans hx157_4
                                    replace hx157_5 := (HB.out.cell (World.block_lt_of_cell? w _ hx157_5)).trans hx157_5
                                    replace hx157_6 := (HB.out.cell (World.block_lt_of_cell? w _ hx157_6)).trans hx157_6
                                    replace hx157_7 := (HB.out.cell (World.block_lt_of_cell? w _ hx157_7)).trans hx157_7
                                    replace hx157_8 := (HB.out.cell (World.block_lt_of_cell? w _ hx157_8)).trans hx157_8
                                    replace hx157_9 := (HB.out.cell (World.block_lt_of_cell? w _ hx157_9)).trans hx157_9
                                    replace hx157_10 := (HB.out.cell (World.block_lt_of_cell? w _ hx157_10)).trans hx157_10
                                    replace hx157_11 := (HB.out.cell (World.block_lt_of_cell? w _ hx157_11)).trans hx157_11
                                    replace hx157_12 := (HB.out.cell (World.block_lt_of_cell? w _ hx157_12)).trans hx157_12
                                    replace hx157_13 := (HB.out.cell (World.block_lt_of_cell? w _ hx157_13)).trans hx157_13
                                    have HR157_2 := Aside0.mk hi157_2
                                    have HC157_2 := Aside0.mk hl157_2
                                    clear hi157_2 hl157_2
                                    have HR157_9 := Aside0.mk hi157_9
                                    have HC157_9 := Aside0.mk hl157_9
                                    clear hi157_9 hl157_9
                                    replace p157 := eq_true p157
                                    replace q157 := eq_true q157
                                    have ea_ := Option.some.inj (hx156_2.symm.trans hx157_2)
                                    injection ea_ with ea_ en_ ec_
                                    subst ea_
                                    subst ec_
                                    clear en_
                                    have ea_ := Option.some.inj (hx156_9.symm.trans hx157_9)
                                    injection ea_ with ea_ en_ ec_
                                    subst ea_
                                    subst ec_
                                    clear en_
                                    have q29 : ((ji17) : Int) ≤ ((((rd_T35 l0 x5_2).f0.f2).length : Int) : Int) := of_decide_eq_true (by first | (with_reducible assumption) | assumption)
                                    obtain ⟨i029, hi029, _, hsz29, _⟩ := info_parts info40
                                    have hroom29 : ((rd_T35 l0 x5_2).f0.f2).length ≤ c156_2 := HC156_2.out
                                    have hC29 : Kd.C k40 _ A156_2 ((rd_T35 l0 x5_2).f0.f2).length ((rd_T35 l0 x5_2).f0.f2) := HR156_2.out
                                    have hcut29 := cut_to (P := Try.prog) 28 40 .i64 Try.underlying28 hi029 A156_2 ((rd_T35 l0 x5_2).f0.f2).length c156_2 (ji17) (of_decide_eq_true (by first | (with_reducible assumption) | assumption)) q29 hroom29
                                    have hr29 := Kd.C_take (m := ((ji17) : Int).toNat) hC29 (by omega)
                                    have hy29 : y158.length = ((ji17) : Int).toNat := (by rw [Ny158.out, List.length_take]; omega)
                                    rw [← Ny158.out] at hr29
                                    rw [← hy29] at hcut29
                                    have HR161 := Aside0.mk hr29
                                    have HC161 := Aside0.mk (show y158.length ≤ c156_2 from by omega)
                                    clear hr29 hC29 hroom29 hi029 hsz29
                                    have KY29 := Aside0.mk hy29
                                    clear hy29
                                    replace q29 := eq_true q29
                                    have p162 : 0 ≤ ((((rd_T35 l0 x5_2).f0.f2).length : Int) : Int) := of_decide_eq_true (by first | (with_reducible assumption) | assumption)
                                    have q162 : (((rd_T35 l0 x5_2).f0.f2).length : Int) < (y158.length : Int) := of_decide_eq_true (by first | (with_reducible assumption) | assumption)
                                    obtain ⟨ad162, e162, hx162_0, hx162_1⟩ := at_T40 HR161.out (((rd_T35 l0 x5_2).f0.f2).length : Int) p162 q162
                                    cases e162
                                    replace hx162_0 := (HB.out.cell (World.block_lt_of_cell? w _ hx162_0)).trans hx162_0
                                    replace hx162_1 := (HB.out.cell (World.block_lt_of_cell? w _ hx162_1)).trans hx162_1
                                    (try simp only [Go.IntWalk.toNatUp] at hx162_0)
                                    (try simp only [Go.IntWalk.toNatUp] at hx162_1)
                                    replace p162 := eq_true p162
                                    replace q162 := eq_true q162
                                    have q30 : ((ji23) : Int) ≤ ((((rd_T35 l0 x5_2).f1.f3).length : Int) : Int) := of_decide_eq_true (by first | (with_reducible assumption) | assumption)
                                    obtain ⟨i030, hi030, _, hsz30, _⟩ := info_parts info42
                                    have hroom30 : ((rd_T35 l0 x5_2).f1.f3).length ≤ c156_9 := HC157_9.out
                                    have hC30 : Kd.C k42 _ A156_9 ((rd_T35 l0 x5_2).f1.f3).length ((rd_T35 l0 x5_2).f1.f3) := HR157_9.out
                                    have hcut30 := cut_to (P := Try.prog) 31 42 .i64 Try.underlying31 hi030 A156_9 ((rd_T35 l0 x5_2).f1.f3).length c156_9 (ji23) (of_decide_eq_true (by first | (with_reducible assumption) | assumption)) q30 hroom30
                                    have hr30 := Kd.C_take (m := ((ji23) : Int).toNat) hC30 (by omega)
                                    have hy30 : y163.length = ((ji23) : Int).toNat := (by rw [Ny163.out, List.length_take]; omega)
                                    rw [← Ny163.out] at hr30
                                    rw [← hy30] at hcut30
                                    have HR166 := Aside0.mk hr30
                                    have HC166 := Aside0.mk (show y163.length ≤ c156_9 from by omega)
                                    clear hr30 hC30 hroom30 hi030 hsz30
                                    have KY30 := Aside0.mk hy30
                                    clear hy30
                                    replace q30 := eq_true q30
                                    have p167 : 0 ≤ ((((rd_T35 l0 x5_2).f1.f3).length : Int) : Int) := of_decide_eq_true (by first | (with_reducible assumption) | assumption)
                                    have q167 : (((rd_T35 l0 x5_2).f1.f3).length : Int) < (y163.length : Int) := of_decide_eq_true (by first | (with_reducible assumption) | assumption)
                                    obtain ⟨ad167, e167, hx167_0, hx167_1, hx167_2⟩ := at_T42 HR166.out (((rd_T35 l0 x5_2).f1.f3).length : Int) p167 q167
                                    cases e167
                                    replace hx167_0 := (HB.out.cell (World.block_lt_of_cell? w _ hx167_0)).trans hx167_0
                                    replace hx167_1 := (HB.out.cell (World.block_lt_of_cell? w _ hx167_1)).trans hx167_1
                                    replace hx167_2 := (HB.out.cell (World.block_lt_of_cell? w _ hx167_2)).trans hx167_2
                                    (try simp only [Go.IntWalk.toNatUp] at hx167_0)
                                    (try simp only [Go.IntWalk.toNatUp] at hx167_1)
                                    (try simp only [Go.IntWalk.toNatUp] at hx167_2)
                                    replace p167 := eq_true p167
                                    replace q167 := eq_true q167
                                    go_wp2
                                    go_roundg k2
                                    case measure => have := HJ2.out; have := HK2.out; omega
                                    case rel => exact ⟨(wrap64 (x5_2 + 1)), (by first | rfl | (simp; done) | (simp [*]; done)), H', ⟨by have := HJ2.out; have := HK2.out; omega⟩, ⟨by repeat (first | (with_reducible first | exact HB.out | apply below_alloc | apply pw_below_drewN | apply below_drew1) | exact HB.out)⟩⟩
                                  · rw [if_neg c28] at H
                                    have c28b0 : (((rd_T42 y163 (((rd_T35 l0 x5_2).f1.f3).length : Int)).f0).toList == ([109, 97, 114, 107] : List UInt8)) = false := beq_eq_false_iff_ne.mpr c28
                                    have c28b1 : (((rd_T42 y163 (((rd_T35 l0 x5_2).f1.f3).length : Int)).f0).toList != ([109, 97, 114, 107] : List UInt8)) = true := bne_iff_ne.mpr c28
                                    obtain rfl := Option.some.inj H
                                    have p156 : 0 ≤ (x5_2 : Int) := of_decide_eq_true (by first | (with_reducible assumption) | assumption)
                                    have q156 : x5_2 < (l0.length : Int) := of_decide_eq_true (by first | (with_reducible assumption) | assumption)
                                    obtain ⟨ad156, A156_2, c156_2, A156_9, c156_9, e156, hx156_0, hx156_1, hx156_2, hx156_3, hx156_4, hx156_5, hx156_6, hx156_7, hx156_8, hx156_9, hx156_10, hx156_11, hx156_12, hx156_13, hl156_2, hi156_2, hl156_9, hi156_9⟩ := at_T35 HR0.out x5_2 p156 q156
                                    cases e156
                                    replace hx156_0 := (HB.out.cell (World.block_lt_of_cell? w _ hx156_0)).trans hx156_0
                                    replace hx156_1 := (HB.out.cell (World.block_lt_of_cell? w _ hx156_1)).trans hx156_1
                                    replace hx156_2 := (HB.out.cell (World.block_lt_of_cell? w _ hx156_2)).trans hx156_2
                                    replace hx156_3 := (HB.out.cell (World.block_lt_of_cell? w _ hx156_3)).trans hx156_3
                                    replace hx156_4 := (HB.out.cell (World.block_lt_of_cell? w _ hx156_4)).trans hx156_4
                                    replace hx156_5 := (HB.out.cell (World.block_lt_of_cell? w _ hx156_5)).trans hx156_5
                                    replace hx156_6 := (HB.out.cell (World.block_lt_of_cell? w _ hx156_6)).trans hx156_6
                                    replace hx156_7 := (HB.out.cell (World.block_lt_of_cell? w _ hx156_7)).trans hx156_7
                                    replace hx156_8 := (HB.out.cell (World.block_lt_of_cell? w _ hx156_8)).trans hx156_8
                                    replace hx156_9 := (HB.out.cell (World.block_lt_of_cell? w _ hx156_9)).trans hx156_9
                                    replace hx156_10 := (HB.out.cell (World.block_lt_of_cell? w _ hx156_10)).trans hx156_10
                                    replace hx156_11 := (HB.out.cell (World.block_lt_of_cell? w _ hx156_11)).trans hx156_11
                                    replace hx156_12 := (HB.out.cell (World.block_lt_of_cell? w _ hx156_12)).trans hx156_12
                                    replace hx156_13 := (HB.out.cell (World.block_lt_of_cell? w _ hx156_13)).trans hx156_13
                                    have HR156_2 := Aside0.mk hi156_2
                                    have HC156_2 := Aside0.mk hl156_2
                                    clear hi156_2 hl156_2
                                    have HR156_9 := Aside0.mk hi156_9
                                    have HC156_9 := Aside0.mk hl156_9
                                    clear hi156_9 hl156_9
                                    replace p156 := eq_true p156
                                    replace q156 := eq_true q156
                                    have p157 : 0 ≤ (x5_2 : Int) := of_decide_eq_true (by first | (with_reducible assumption) | assumption)
                                    have q157 : x5_2 < (l0.length : Int) := of_decide_eq_true (by first | (with_reducible assumption) | assumption)
                                    obtain ⟨ad157, A157_2, c157_2, A157_9, c157_9, e157, hx157_0, hx157_1, hx157_2, hx157_3, hx157_4, hx157_5, hx157_6, hx157_7, hx157_8, hx157_9, hx157_10, hx157_11, hx157_12, hx157_13, hl157_2, hi157_2, hl157_9, hi157_9⟩ := at_T35 HR0.out x5_2 p157 q157
                                    obtain rfl : ad156 = ad157 := (by injection e157)
                                    replace hx157_0 := (HB.out.cell (World.block_lt_of_cell? w _ hx157_0)).trans hx157_0
                                    replace hx157_1 := (HB.out.cell (World.block_lt_of_cell? w _ hx157_1)).trans hx157_1
                                    replace hx157_2 := (HB.out.cell (World.block_lt_of_cell? w _ hx157_2)).trans hx157_2
                                    replace hx157_3 := (HB.out.cell (World.block_lt_of_cell? w _ hx157_3)).trans hx157_3
                                    replace hx157_4 := (HB.out.cell (World.block_lt_of_cell? w _ hx157_4)).trans hx157_4
                                    replace hx157_5 := (HB.out.cell (World.block_lt_of_cell? w _ hx157_5)).trans hx157_5
                                    replace hx157_6 := (HB.out.cell (World.block_lt_of_cell? w _ hx157_6)).trans hx157_6
                                    replace hx157_7 := (HB.out.cell (World.block_lt_of_cell? w _ hx157_7)).trans hx157_7
                                    replace hx157_8 := (HB.out.cell (World.block_lt_of_cell? w _ hx157_8)).trans hx157_8
                                    replace hx157_9 := (HB.out.cell (World.block_lt_of_cell? w _ hx157_9)).trans hx157_9
                                    replace hx157_10 := (HB.out.cell (World.block_lt_of_cell? w _ hx157_10)).trans hx157_10
                                    replace hx157_11 := (HB.out.cell (World.block_lt_of_cell? w _ hx157_11)).trans hx157_11
                                    replace hx157_12 := (HB.out.cell (World.block_lt_of_cell? w _ hx157_12)).trans hx157_12
                                    replace hx157_13 := (HB.out.cell (World.block_lt_of_cell? w _ hx157_13)).trans hx157_13
                                    have HR157_2 := Aside0.mk hi157_2
                                    have HC157_2 := Aside0.mk hl157_2
                                    clear hi157_2 hl157_2
                                    have HR157_9 := Aside0.mk hi157_9
                                    have HC157_9 := Aside0.mk hl157_9
                                    clear hi157_9 hl157_9
                                    replace p157 := eq_true p157
                                    replace q157 := eq_true q157
                                    have ea_ := Option.some.inj (hx156_2.symm.trans hx157_2)
                                    injection ea_ with ea_ en_ ec_
                                    subst ea_
                                    subst ec_
                                    clear en_
                                    have ea_ := Option.some.inj (hx156_9.symm.trans hx157_9)
                                    injection ea_ with ea_ en_ ec_
                                    subst ea_
                                    subst ec_
                                    clear en_
                                    have q31 : ((ji17) : Int) ≤ ((((rd_T35 l0 x5_2).f0.f2).length : Int) : Int) := of_decide_eq_true (by first | (with_reducible assumption) | assumption)
                                    obtain ⟨i031, hi031, _, hsz31, _⟩ := info_parts info40
                                    have hroom31 : ((rd_T35 l0 x5_2).f0.f2).length ≤ c156_2 := HC156_2.out
                                    have hC31 : Kd.C k40 _ A156_2 ((rd_T35 l0 x5_2).f0.f2).length ((rd_T35 l0 x5_2).f0.f2) := HR156_2.out
                                    have hcut31 := cut_to (P := Try.prog) 28 40 .i64 Try.underlying28 hi031 A156_2 ((rd_T35 l0 x5_2).f0.f2).length c156_2 (ji17) (of_decide_eq_true (by first | (with_reducible assumption) | assumption)) q31 hroom31
                                    have hr31 := Kd.C_take (m := ((ji17) : Int).toNat) hC31 (by omega)
                                    have hy31 : y158.length = ((ji17) : Int).toNat := (by rw [Ny158.out, List.length_take]; omega)
                                    rw [← Ny158.out] at hr31
                                    rw [← hy31] at hcut31
                                    have HR161 := Aside0.mk hr31
                                    have HC161 := Aside0.mk (show y158.length ≤ c156_2 from by omega)
                                    clear hr31 hC31 hroom31 hi031 hsz31
                                    have KY31 := Aside0.mk hy31
                                    clear hy31
                                    replace q31 := eq_true q31
                                    have p162 : 0 ≤ ((((rd_T35 l0 x5_2).f0.f2).length : Int) : Int) := of_decide_eq_true (by first | (with_reducible assumption) | assumption)
                                    have q162 : (((rd_T35 l0 x5_2).f0.f2).length : Int) < (y158.length : Int) := of_decide_eq_true (by first | (with_reducible assumption) | assumption)
                                    obtain ⟨ad162, e162, hx162_0, hx162_1⟩ := at_T40 HR161.out (((rd_T35 l0 x5_2).f0.f2).length : Int) p162 q162
                                    cases e162
                                    replace hx162_0 := (HB.out.cell (World.block_lt_of_cell? w _ hx162_0)).trans hx162_0
                                    replace hx162_1 := (HB.out.cell (World.block_lt_of_cell? w _ hx162_1)).trans hx162_1
                                    (try simp only [Go.IntWalk.toNatUp] at hx162_0)
                                    (try simp only [Go.IntWalk.toNatUp] at hx162_1)
                                    replace p162 := eq_true p162
                                    replace q162 := eq_true q162
                                    have q32 : ((ji23) : Int) ≤ ((((rd_T35 l0 x5_2).f1.f3).length : Int) : Int) := of_decide_eq_true (by first | (with_reducible assumption) | assumption)
                                    obtain ⟨i032, hi032, _, hsz32, _⟩ := info_parts info42
                                    have hroom32 : ((rd_T35 l0 x5_2).f1.f3).length ≤ c156_9 := HC157_9.out
                                    have hC32 : Kd.C k42 _ A156_9 ((rd_T35 l0 x5_2).f1.f3).length ((rd_T35 l0 x5_2).f1.f3) := HR157_9.out
                                    have hcut32 := cut_to (P := Try.prog) 31 42 .i64 Try.underlying31 hi032 A156_9 ((rd_T35 l0 x5_2).f1.f3).length c156_9 (ji23) (of_decide_eq_true (by first | (with_reducible assumption) | assumption)) q32 hroom32
                                    have hr32 := Kd.C_take (m := ((ji23) : Int).toNat) hC32 (by omega)
                                    have hy32 : y163.length = ((ji23) : Int).toNat := (by rw [Ny163.out, List.length_take]; omega)
                                    rw [← Ny163.out] at hr32
                                    rw [← hy32] at hcut32
                                    have HR166 := Aside0.mk hr32
                                    have HC166 := Aside0.mk (show y163.length ≤ c156_9 from by omega)
                                    clear hr32 hC32 hroom32 hi032 hsz32
                                    have KY32 := Aside0.mk hy32
                                    clear hy32
                                    replace q32 := eq_true q32
                                    have p167 : 0 ≤ ((((rd_T35 l0 x5_2).f1.f3).length : Int) : Int) := of_decide_eq_true (by first | (with_reducible assumption) | assumption)
                                    have q167 : (((rd_T35 l0 x5_2).f1.f3).length : Int) < (y163.length : Int) := of_decide_eq_true (by first | (with_reducible assumption) | assumption)
                                    obtain ⟨ad167, e167, hx167_0, hx167_1, hx167_2⟩ := at_T42 HR166.out (((rd_T35 l0 x5_2).f1.f3).length : Int) p167 q167
                                    cases e167
                                    replace hx167_0 := (HB.out.cell (World.block_lt_of_cell? w _ hx167_0)).trans hx167_0
                                    replace hx167_1 := (HB.out.cell (World.block_lt_of_cell? w _ hx167_1)).trans hx167_1
                                    replace hx167_2 := (HB.out.cell (World.block_lt_of_cell? w _ hx167_2)).trans hx167_2
                                    (try simp only [Go.IntWalk.toNatUp] at hx167_0)
                                    (try simp only [Go.IntWalk.toNatUp] at hx167_1)
                                    (try simp only [Go.IntWalk.toNatUp] at hx167_2)
                                    replace p167 := eq_true p167
                                    replace q167 := eq_true q167
                                    go_wp2
                                    go_ret
                                    exact ⟨by first | rfl | (simp [errW_none, errW_some] <;> rfl) | (simp only [← hji17, ← hji23]; first | rfl | (simp [errW_none, errW_some] <;> rfl)) | (simp [*, errW_none, errW_some] <;> rfl), by repeat (first | (with_reducible first | exact HB.out | apply below_alloc | apply pw_below_drewN | apply below_drew1) | exact HB.out)⟩
                                · rw [if_neg c27] at H
                                  exact absurd H (by simp)
                              · rw [if_neg c26] at H
                                exact absurd H (by simp)
                            · rw [if_neg c25] at H
                              exact absurd H (by simp)
                          · rw [if_neg c24] at H
                            exact absurd H (by simp)
                        · rw [if_neg c22] at H
                          have c22b0 : (((rd_T40 y158 (((rd_T35 l0 x5_2).f0.f2).length : Int)).f0).toList == ([109, 97, 114, 107] : List UInt8)) = false := beq_eq_false_iff_ne.mpr c22
                          have c22b1 : (((rd_T40 y158 (((rd_T35 l0 x5_2).f0.f2).length : Int)).f0).toList != ([109, 97, 114, 107] : List UInt8)) = true := bne_iff_ne.mpr c22
                          obtain rfl := Option.some.inj H
                          have p156 : 0 ≤ (x5_2 : Int) := of_decide_eq_true (by first | (with_reducible assumption) | assumption)
                          have q156 : x5_2 < (l0.length : Int) := of_decide_eq_true (by first | (with_reducible assumption) | assumption)
                          obtain ⟨ad156, A156_2, c156_2, A156_9, c156_9, e156, hx156_0, hx156_1, hx156_2, hx156_3, hx156_4, hx156_5, hx156_6, hx156_7, hx156_8, hx156_9, hx156_10, hx156_11, hx156_12, hx156_13, hl156_2, hi156_2, hl156_9, hi156_9⟩ := at_T35 HR0.out x5_2 p156 q156
                          cases e156
                          replace hx156_0 := (HB.out.cell (World.block_lt_of_cell? w _ hx156_0)).trans hx156_0
                          replace hx156_1 := (HB.out.cell (World.block_lt_of_cell? w _ hx156_1)).trans hx156_1
                          replace hx156_2 := (HB.out.cell (World.block_lt_of_cell? w _ hx156_2)).trans hx156_2
                          replace hx156_3 := (HB.out.cell (World.block_lt_of_cell? w _ hx156_3)).trans hx156_3
                          replace hx156_4 := (HB.out.cell (World.block_lt_of_cell? w _ hx156_4)).trans hx156_4
                          replace hx156_5 := (HB.out.cell (World.block_lt_of_cell? w _ hx156_5)).trans hx156_5
                          replace hx156_6 := (HB.out.cell (World.block_lt_of_cell? w _ hx156_6)).trans hx156_6
                          replace hx156_7 := (HB.out.cell (World.block_lt_of_cell? w _ hx156_7)).trans hx156_7
                          replace hx156_8 := (HB.out.cell (World.block_lt_of_cell? w _ hx156_8)).trans hx156_8
                          replace hx156_9 := (HB.out.cell (World.block_lt_of_cell? w _ hx156_9)).trans hx156_9
                          replace hx156_10 := (HB.out.cell (World.block_lt_of_cell? w _ hx156_10)).trans hx156_10
                          replace hx156_11 := (HB.out.cell (World.block_lt_of_cell? w _ hx156_11)).trans hx156_11
                          replace hx156_12 := (HB.out.cell (World.block_lt_of_cell? w _ hx156_12)).trans hx156_12
                          replace hx156_13 := (HB.out.cell (World.block_lt_of_cell? w _ hx156_13)).trans hx156_13
                          have HR156_2 := Aside0.mk hi156_2
                          have HC156_2 := Aside0.mk hl156_2
                          clear hi156_2 hl156_2
                          have HR156_9 := Aside0.mk hi156_9
                          have HC156_9 := Aside0.mk hl156_9
                          clear hi156_9 hl156_9
                          replace p156 := eq_true p156
                          replace q156 := eq_true q156
                          have p157 : 0 ≤ (x5_2 : Int) := of_decide_eq_true (by first | (with_reducible assumption) | assumption)
                          have q157 : x5_2 < (l0.length : Int) := of_decide_eq_true (by first | (with_reducible assumption) | assumption)
                          obtain ⟨ad157, A157_2, c157_2, A157_9, c157_9, e157, hx157_0, hx157_1, hx157_2, hx157_3, hx157_4, hx157_5, hx157_6, hx157_7, hx157_8, hx157_9, hx157_10, hx157_11, hx157_12, hx157_13, hl157_2, hi157_2, hl157_9, hi157_9⟩ := at_T35 HR0.out x5_2 p157 q157
                          obtain rfl : ad156 = ad157 := (by injection e157)
                          replace hx157_0 := (HB.out.cell (World.block_lt_of_cell? w _ hx157_0)).trans hx157_0
                          replace hx157_1 := (HB.out.cell (World.block_lt_of_cell? w _ hx157_1)).trans hx157_1
                          replace hx157_2 := (HB.out.cell (World.block_lt_of_cell? w _ hx157_2)).trans hx157_2
                          replace hx157_3 := (HB.out.cell (World.block_lt_of_cell? w _ hx157_3)).trans hx157_3
                          replace hx157_4 := (HB.out.cell (World.block_lt_of_cell? w _ hx157_4)).trans hx157_4
                          replace hx157_5 := (HB.out.cell (World.block_lt_of_cell? w _ hx157_5)).trans hx157_5
                          replace hx157_6 := (HB.out.cell (World.block_lt_of_cell? w _ hx157_6)).trans hx157_6
                          replace hx157_7 := (HB.out.cell (World.block_lt_of_cell? w _ hx157_7)).trans hx157_7
                          replace hx157_8 := (HB.out.cell (World.block_lt_of_cell? w _ hx157_8)).trans hx157_8
                          replace hx157_9 := (HB.out.cell (World.block_lt_of_cell? w _ hx157_9)).trans hx157_9
                          replace hx157_10 := (HB.out.cell (World.block_lt_of_cell? w _ hx157_10)).trans hx157_10
                          replace hx157_11 := (HB.out.cell (World.block_lt_of_cell? w _ hx157_11)).trans hx157_11
                          replace hx157_12 := (HB.out.cell (World.block_lt_of_cell? w _ hx157_12)).trans hx157_12
                          replace hx157_13 := (HB.out.cell (World.block_lt_of_cell? w _ hx157_13)).trans hx157_13
                          have HR157_2 := Aside0.mk hi157_2
                          have HC157_2 := Aside0.mk hl157_2
                          clear hi157_2 hl157_2
                          have HR157_9 := Aside0.mk hi157_9
                          have HC157_9 := Aside0.mk hl157_9
                          clear hi157_9 hl157_9
                          replace p157 := eq_true p157
                          replace q157 := eq_true q157
                          have ea_ := Option.some.inj (hx156_2.symm.trans hx157_2)
                          injection ea_ with ea_ en_ ec_
                          subst ea_
                          subst ec_
                          clear en_
                          have ea_ := Option.some.inj (hx156_9.symm.trans hx157_9)
                          injection ea_ with ea_ en_ ec_
                          subst ea_
                          subst ec_
                          clear en_
                          have q33 : ((ji17) : Int) ≤ ((((rd_T35 l0 x5_2).f0.f2).length : Int) : Int) := of_decide_eq_true (by first | (with_reducible assumption) | assumption)
                          obtain ⟨i033, hi033, _, hsz33, _⟩ := info_parts info40
                          have hroom33 : ((rd_T35 l0 x5_2).f0.f2).length ≤ c156_2 := HC156_2.out
                          have hC33 : Kd.C k40 _ A156_2 ((rd_T35 l0 x5_2).f0.f2).length ((rd_T35 l0 x5_2).f0.f2) := HR156_2.out
                          have hcut33 := cut_to (P := Try.prog) 28 40 .i64 Try.underlying28 hi033 A156_2 ((rd_T35 l0 x5_2).f0.f2).length c156_2 (ji17) (of_decide_eq_true (by first | (with_reducible assumption) | assumption)) q33 hroom33
                          have hr33 := Kd.C_take (m := ((ji17) : Int).toNat) hC33 (by omega)
                          have hy33 : y158.length = ((ji17) : Int).toNat := (by rw [Ny158.out, List.length_take]; omega)
                          rw [← Ny158.out] at hr33
                          rw [← hy33] at hcut33
                          have HR161 := Aside0.mk hr33
                          have HC161 := Aside0.mk (show y158.length ≤ c156_2 from by omega)
                          clear hr33 hC33 hroom33 hi033 hsz33
                          have KY33 := Aside0.mk hy33
                          clear hy33
                          replace q33 := eq_true q33
                          have p162 : 0 ≤ ((((rd_T35 l0 x5_2).f0.f2).length : Int) : Int) := of_decide_eq_true (by first | (with_reducible assumption) | assumption)
                          have q162 : (((rd_T35 l0 x5_2).f0.f2).length : Int) < (y158.length : Int) := of_decide_eq_true (by first | (with_reducible assumption) | assumption)
                          obtain ⟨ad162, e162, hx162_0, hx162_1⟩ := at_T40 HR161.out (((rd_T35 l0 x5_2).f0.f2).length : Int) p162 q162
                          cases e162
                          replace hx162_0 := (HB.out.cell (World.block_lt_of_cell? w _ hx162_0)).trans hx162_0
                          replace hx162_1 := (HB.out.cell (World.block_lt_of_cell? w _ hx162_1)).trans hx162_1
                          (try simp only [Go.IntWalk.toNatUp] at hx162_0)
                          (try simp only [Go.IntWalk.toNatUp] at hx162_1)
                          replace p162 := eq_true p162
                          replace q162 := eq_true q162
                          go_wp2
                          go_ret
                          exact ⟨by first | rfl | (simp [errW_none, errW_some] <;> rfl) | (simp only [← hji17]; first | rfl | (simp [errW_none, errW_some] <;> rfl)) | (simp [*, errW_none, errW_some] <;> rfl), by repeat (first | (with_reducible first | exact HB.out | apply below_alloc | apply pw_below_drewN | apply below_drew1) | exact HB.out)⟩
                      · rw [if_neg c21] at H
                        exact absurd H (by simp)
                    · rw [if_neg c20] at H
                      exact absurd H (by simp)
                  · rw [if_neg c19] at H
                    exact absurd H (by simp)
                · rw [if_neg c18] at H
                  exact absurd H (by simp)
              · rw [if_neg c16] at H
                exact absurd H (by simp)
            · rw [if_neg c15] at H
              have c15b0 : decide (x5_2 < (l0.length : Int)) = false := decide_eq_false c15
              clear c15
              obtain rfl := Option.some.inj H
              go_wp2
              go_ret
              exact ⟨by first | rfl | (simp [errW_none, errW_some] <;> rfl) | (simp [*, errW_none, errW_some] <;> rfl), by repeat (first | (with_reducible first | exact HB.out | apply below_alloc | apply pw_below_drewN | apply below_drew1) | exact HB.out)⟩

/-! ### api_Level_28: function 28 -/
def api_Level_28.l0 : Nat → List (S42) → List (S42) → Int → Int → Option (Bool)
  | 0, _, _, _, _ => none
  | k + 1, x0, x1, x12, x13 => if x13 < x12 then (if 0 ≤ x13 then (if x13 < (x0.length : Int) then (if x13 < (x1.length : Int) then (if (!((((rd_T42 x0 x13).f0).toList) == (((rd_T42 x1 x13).f0).toList)) || (!(((rd_T42 x0 x13).f1) == ((rd_T42 x1 x13).f1)) || (!(((rd_T42 x0 x13).f2) == ((rd_T42 x1 x13).f2))))) = true then (some false) else (api_Level_28.l0 k x0 x1 x12 (wrap64 (x13 + 1)))) else (none)) else (none)) else (none)) else (some true)
def api_Level_28.f (k : Nat) (l0 : List (S42)) (l1 : List (S42)) : Option (Bool) := if (l0.length : Int) = (l1.length : Int) then (api_Level_28.l0 k l0 l1 (l0.length : Int) 0) else (some false)
theorem api_Level_28.mono_l : ∀ k, (∀ y0 y1 y2 y3, LeO (api_Level_28.l0 k y0 y1 y2 y3) (api_Level_28.l0 (k + 1) y0 y1 y2 y3))
  | 0 => fun _ _ _ _ r h => by simp [api_Level_28.l0] at h
  | k + 1 => by
    have ih0 := api_Level_28.mono_l k
    · intro y0 y1 y2 y3
      unfold api_Level_28.l0
      repeat' first
      | (with_reducible exact ih0 _ _ _ _)
      | (with_reducible exact LeO.refl _)
      | (with_reducible exact LeO.none _)
      | (with_reducible refine LeO.ite ?_ ?_)
      | (with_reducible refine LeO.bind ?_ (fun _ => ?_))
      | exact ih0 _ _ _ _
      | exact LeO.none _
      | refine LeO.ite ?_ ?_
      | refine LeO.bind ?_ (fun _ => ?_)
theorem api_Level_28.mono : ∀ a0 a1 k, LeO (api_Level_28.f k a0 a1) (api_Level_28.f (k + 1) a0 a1) := by
  intro a0 a1 k
  have ih0 := api_Level_28.mono_l k
  unfold api_Level_28.f
  repeat' first
      | (with_reducible exact ih0 _ _ _ _)
      | (with_reducible exact LeO.refl _)
      | (with_reducible exact LeO.none _)
      | (with_reducible refine LeO.ite ?_ ?_)
      | (with_reducible refine LeO.bind ?_ (fun _ => ?_))
      | exact ih0 _ _ _ _
      | exact LeO.none _
      | refine LeO.ite ?_ ?_
      | refine LeO.bind ?_ (fun _ => ?_)
set_option maxHeartbeats 8000000 in
set_option maxRecDepth 100000 in
theorem api_Level_28.calls (k : Nat) (A0 : Option Addr) (c0 : Nat) (l0 : List (S42)) (A1 : Option Addr) (c1 : Nat) (l1 : List (S42)) (r : Bool) (w : World) (hr0 : Kd.C k42 w A0 l0.length l0) (hc0 : l0.length ≤ c0) (hr1 : Kd.C k42 w A1 l1.length l1) (hc1 : l1.length ≤ c1) (h : api_Level_28.f k l0 l1 = some r) :
    Calls Try.prog 28 #[.slice A0 l0.length c0, .slice A1 l1.length c1] w fun e w' => e = .returned (.bool r) ∧ Drawn0 w w' := by
  have hu42 := Try.underlying42
  have HR0 := Aside0.mk hr0
  have HC0 := Aside0.mk hc0
  clear hr0 hc0
  have HR1 := Aside0.mk hr1
  have HC1 := Aside0.mk hc1
  clear hr1 hc1
  have H : (if (l0.length : Int) = (l1.length : Int) then (api_Level_28.l0 k l0 l1 (l0.length : Int) 0) else (some false)) = some r := h
  clear h
  by_cases c3 : (l0.length : Int) = (l1.length : Int)
  · rw [if_pos c3] at H
    have c3b0 : ((l0.length : Int) == (l1.length : Int)) = true := beq_iff_eq.mpr c3
    have c3b1 : ((l0.length : Int) != (l1.length : Int)) = false := bne_eq_false_iff_eq.mpr c3
    have c3b2 : (l0.length == l1.length) = true := by first | simpa using c3 | (simp at c3 ⊢; omega)
    clear c3
    have H' := Aside0.mk H
    clear H
    go_enter Try.func28, Try.ntmps28
    go_wp2
    repeat (go_quiet (fail); try go_wp2)
    go_loopg [13] k (fun kq v13 w' => ∃ (x13_1 : Int), v13 = .int .i64 x13_1 ∧ Aside0 (api_Level_28.l0 kq l0 l1 (l0.length : Int) x13_1 = some r) ∧ Aside0 (kq ≤ k) ∧ Drawn0 w w')
    case atStart => exact ⟨(0), (by first | rfl | (simp; done) | (simp [*]; done)), H', ⟨Nat.le_refl _⟩, by repeat (first | exact Drawn0.refl _ | apply Drawn0.step)⟩
    case round =>
      clear H'
      try clear c1
      try clear c2
      try clear p2
      try clear c3
      try clear c3b0
      try clear c3b1
      try clear c3b2
      obtain ⟨x13_1, rfl, HA, HK1, ⟨m1, rfl⟩⟩ := hrel
      cases gk with
      | zero => exact absurd HA.out (by simp [api_Level_28.l0])
      | succ k1 =>
        have H := HA.out
        clear HA
        simp only [api_Level_28.l0] at H
        by_cases c4 : x13_1 < (l0.length : Int)
        · rw [if_pos c4] at H
          have c4b0 : decide (x13_1 < (l0.length : Int)) = true := decide_eq_true c4
          clear c4
          by_cases c5 : 0 ≤ x13_1
          · rw [if_pos c5] at H
            have c5b0 : decide (0 ≤ x13_1) = true := decide_eq_true c5
            clear c5
            by_cases c6 : x13_1 < (l0.length : Int)
            · rw [if_pos c6] at H
              have c6b0 : decide (x13_1 < (l0.length : Int)) = true := decide_eq_true c6
              clear c6
              by_cases c7 : x13_1 < (l1.length : Int)
              · rw [if_pos c7] at H
                have c7b0 : decide (x13_1 < (l1.length : Int)) = true := decide_eq_true c7
                clear c7
                by_cases c8 : (!((((rd_T42 l0 x13_1).f0).toList) == (((rd_T42 l1 x13_1).f0).toList)) || (!(((rd_T42 l0 x13_1).f1) == ((rd_T42 l1 x13_1).f1)) || (!(((rd_T42 l0 x13_1).f2) == ((rd_T42 l1 x13_1).f2))))) = true
                · rw [if_pos c8] at H
                  have c8b0 : (!((((rd_T42 l0 x13_1).f0).toList) == (((rd_T42 l1 x13_1).f0).toList)) || (!(((rd_T42 l0 x13_1).f1) == ((rd_T42 l1 x13_1).f1)) || (!(((rd_T42 l0 x13_1).f2) == ((rd_T42 l1 x13_1).f2))))) = true := c8
                  clear c8
                  obtain rfl := Option.some.inj H
                  have p168 : 0 ≤ (x13_1 : Int) := of_decide_eq_true (by first | (with_reducible assumption) | assumption)
                  have q168 : x13_1 < (l0.length : Int) := of_decide_eq_true (by first | (with_reducible assumption) | assumption)
                  obtain ⟨ad168, e168, hx168_0, hx168_1, hx168_2⟩ := at_T42 HR0.out x13_1 p168 q168
                  cases e168
                  replace p168 := eq_true p168
                  replace q168 := eq_true q168
                  have p169 : 0 ≤ (x13_1 : Int) := of_decide_eq_true (by first | (with_reducible assumption) | assumption)
                  have q169 : x13_1 < (l1.length : Int) := of_decide_eq_true (by first | (with_reducible assumption) | assumption)
                  obtain ⟨ad169, e169, hx169_0, hx169_1, hx169_2⟩ := at_T42 HR1.out x13_1 p169 q169
                  cases e169
                  replace p169 := eq_true p169
                  replace q169 := eq_true q169
                  go_wp2
                  repeat (go_quiet (fail); try go_wp2)
                  go_ret
                  exact ⟨by first | rfl | (simp; done) | (simp [*]; done), by repeat (first | exact Drawn0.refl _ | apply Drawn0.step)⟩
                · rw [if_neg c8] at H
                  have c8b0 : (!((((rd_T42 l0 x13_1).f0).toList) == (((rd_T42 l1 x13_1).f0).toList)) || (!(((rd_T42 l0 x13_1).f1) == ((rd_T42 l1 x13_1).f1)) || (!(((rd_T42 l0 x13_1).f2) == ((rd_T42 l1 x13_1).f2))))) = false := by simpa using c8
                  clear c8
                  have H' := Aside0.mk H
                  clear H
                  have p168 : 0 ≤ (x13_1 : Int) := of_decide_eq_true (by first | (with_reducible assumption) | assumption)
                  have q168 : x13_1 < (l0.length : Int) := of_decide_eq_true (by first | (with_reducible assumption) | assumption)
                  obtain ⟨ad168, e168, hx168_0, hx168_1, hx168_2⟩ := at_T42 HR0.out x13_1 p168 q168
                  cases e168
                  replace p168 := eq_true p168
                  replace q168 := eq_true q168
                  have p169 : 0 ≤ (x13_1 : Int) := of_decide_eq_true (by first | (with_reducible assumption) | assumption)
                  have q169 : x13_1 < (l1.length : Int) := of_decide_eq_true (by first | (with_reducible assumption) | assumption)
                  obtain ⟨ad169, e169, hx169_0, hx169_1, hx169_2⟩ := at_T42 HR1.out x13_1 p169 q169
                  cases e169
                  replace p169 := eq_true p169
                  replace q169 := eq_true q169
                  go_wp2
                  repeat (go_quiet (fail); try go_wp2)
                  go_roundg k1
                  case measure => have := HK1.out; omega
                  case rel => exact ⟨(wrap64 (x13_1 + 1)), (by first | rfl | (simp; done) | (simp [*]; done)), H', ⟨by have := HK1.out; omega⟩, by repeat (first | exact Drawn0.refl _ | apply Drawn0.step)⟩
              · rw [if_neg c7] at H
                exact absurd H (by simp)
            · rw [if_neg c6] at H
              exact absurd H (by simp)
          · rw [if_neg c5] at H
            exact absurd H (by simp)
        · rw [if_neg c4] at H
          have c4b0 : decide (x13_1 < (l0.length : Int)) = false := decide_eq_false c4
          clear c4
          obtain rfl := Option.some.inj H
          go_wp2
          repeat (go_quiet (fail); try go_wp2)
          go_ret
          exact ⟨by first | rfl | (simp; done) | (simp [*]; done), by repeat (first | exact Drawn0.refl _ | apply Drawn0.step)⟩
  · rw [if_neg c3] at H
    have c3b0 : ((l0.length : Int) == (l1.length : Int)) = false := beq_eq_false_iff_ne.mpr c3
    have c3b1 : ((l0.length : Int) != (l1.length : Int)) = true := bne_iff_ne.mpr c3
    have c3b2 : (l0.length == l1.length) = false := by first | simpa using c3 | (simp at c3 ⊢; omega)
    obtain rfl := Option.some.inj H
    go_enter Try.func28, Try.ntmps28
    go_wp2
    repeat (go_quiet (fail); try go_wp2)
    go_ret
    exact ⟨by first | rfl | (simp; done) | (simp [*]; done), by repeat (first | exact Drawn0.refl _ | apply Drawn0.step)⟩

end Go.Proofs.Ytkjbbihnhbaipaa.PLinUntils
