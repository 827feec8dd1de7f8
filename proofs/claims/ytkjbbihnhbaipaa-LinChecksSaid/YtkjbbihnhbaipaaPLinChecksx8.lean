-- PRINTED BY print.sh 35421559b90ae4d0a3588c463048766b98c2df88dd9212a6774a882060cdf62d: not written by this session
import Derived.Test.YtkjbbihnhbaipaaPLinChecksx0
import Derived.Test.YtkjbbihnhbaipaaPLinChecksx7
namespace Go.Proofs.Ytkjbbihnhbaipaa.PLinChecks
open Go.RowKit Go.Proofs.YtkjbbihnhbaipaaW.PrintWords Go.Proofs.YtkjbbihnhbaipaaW.PrintLast Go.Proofs.YtkjbbihnhbaipaaW.PrintMore
attribute [local go_sem] max2_int min2_int max_two min_two max_three min_three max_four min_four   -- for this text's walks alone
set_option linter.unusedVariables false
set_option linter.unusedSimpArgs false

/-! ### larderlaw16_kept: function 11 -/
mutual
def larderlaw16_kept.j0 : Nat → List (S35) → Bool → Option (Bool)
  | 0, _, _ => none
  | k + 1, x0, x24 => if x24 = true then (some false) else (larderlaw16_kept.l0 k x0 0)
def larderlaw16_kept.l0 : Nat → List (S35) → Int → Option (Bool)
  | 0, _, _ => none
  | k + 1, x0, x5 => if x5 < (x0.length : Int) then (if 0 ≤ x5 then (if 0 ≤ (wrap64 ((((rd_T35 x0 x5).f0.f2).length : Int) + 1)) then (if (wrap64 ((((rd_T35 x0 x5).f0.f2).length : Int) + 1)) ≤ (((rd_T35 x0 x5).f0.f2).length : Int) then ((some (((rd_T35 x0 x5).f0.f2).take ((wrap64 ((((rd_T35 x0 x5).f0.f2).length : Int) + 1)) : Int).toNat : List (S40))).bind fun y173 => (if 0 ≤ (((rd_T35 x0 x5).f0.f2).length : Int) then (if (((rd_T35 x0 x5).f0.f2).length : Int) < (y173.length : Int) then (if ((rd_T40 y173 (((rd_T35 x0 x5).f0.f2).length : Int)).f0).toList = ([109, 97, 114, 107] : List UInt8) then (if 0 ≤ (wrap64 ((((rd_T35 x0 x5).f1.f3).length : Int) + 1)) then (if (wrap64 ((((rd_T35 x0 x5).f1.f3).length : Int) + 1)) ≤ (((rd_T35 x0 x5).f1.f3).length : Int) then ((some (((rd_T35 x0 x5).f1.f3).take ((wrap64 ((((rd_T35 x0 x5).f1.f3).length : Int) + 1)) : Int).toNat : List (S42))).bind fun y178 => (if 0 ≤ (((rd_T35 x0 x5).f1.f3).length : Int) then (if (((rd_T35 x0 x5).f1.f3).length : Int) < (y178.length : Int) then (if ((rd_T42 y178 (((rd_T35 x0 x5).f1.f3).length : Int)).f0).toList = ([109, 97, 114, 107] : List UInt8) then (larderlaw16_kept.l0 k x0 (wrap64 (x5 + 1))) else (some false)) else (none)) else (none))) else (none)) else (none)) else (some false)) else (none)) else (none))) else (none)) else (none)) else (none)) else (some true)
end
def larderlaw16_kept.f (k : Nat) (l0 : List (S35)) (l1 : List (S35)) : Option (Bool) := (larderlaw16_sameOps.f k l0 l1).bind fun t165 => (if t165 = true then (if 0 ≤ (wrap64 ((l0.length : Int) + 1)) then (if (wrap64 ((l0.length : Int) + 1)) ≤ (l0.length : Int) then ((some (l0.take ((wrap64 ((l0.length : Int) + 1)) : Int).toNat : List (S35))).bind fun y166 => (if 0 ≤ (l0.length : Int) then (if (l0.length : Int) < (y166.length : Int) then (larderlaw16_kept.j0 k l0 (((rd_T35 y166 (l0.length : Int)).f2) != (-7))) else (none)) else (none))) else (none)) else (none)) else (larderlaw16_kept.j0 k l0 true))
theorem larderlaw16_kept.mono_l : ∀ k, (∀ y0 y1, LeO (larderlaw16_kept.j0 k y0 y1) (larderlaw16_kept.j0 (k + 1) y0 y1)) ∧ (∀ y0 y1, LeO (larderlaw16_kept.l0 k y0 y1) (larderlaw16_kept.l0 (k + 1) y0 y1))
  | 0 => ⟨fun _ _ r h => by simp [larderlaw16_kept.j0] at h, fun _ _ r h => by simp [larderlaw16_kept.l0] at h⟩
  | k + 1 => by
    obtain ⟨ih0, ih1⟩ := larderlaw16_kept.mono_l k
    refine ⟨?_, ?_⟩
    · intro y0 y1
      unfold larderlaw16_kept.j0
      repeat' first
      | (with_reducible exact ih0 _ _)
      | (with_reducible exact ih1 _ _)
      | (with_reducible exact larderlaw16_sameOps.mono _ _ _)
      | (with_reducible exact LeO.refl _)
      | (with_reducible exact LeO.none _)
      | (with_reducible refine LeO.ite ?_ ?_)
      | (with_reducible refine LeO.bind ?_ (fun _ => ?_))
      | exact ih0 _ _
      | exact ih1 _ _
      | exact larderlaw16_sameOps.mono _ _ _
      | exact LeO.none _
      | refine LeO.ite ?_ ?_
      | refine LeO.bind ?_ (fun _ => ?_)
    · intro y0 y1
      unfold larderlaw16_kept.l0
      repeat' first
      | (with_reducible exact ih0 _ _)
      | (with_reducible exact ih1 _ _)
      | (with_reducible exact larderlaw16_sameOps.mono _ _ _)
      | (with_reducible exact LeO.refl _)
      | (with_reducible exact LeO.none _)
      | (with_reducible refine LeO.ite ?_ ?_)
      | (with_reducible refine LeO.bind ?_ (fun _ => ?_))
      | exact ih0 _ _
      | exact ih1 _ _
      | exact larderlaw16_sameOps.mono _ _ _
      | exact LeO.none _
      | refine LeO.ite ?_ ?_
      | refine LeO.bind ?_ (fun _ => ?_)
theorem larderlaw16_kept.mono : ∀ a0 a1 k, LeO (larderlaw16_kept.f k a0 a1) (larderlaw16_kept.f (k + 1) a0 a1) := by
  intro a0 a1 k
  obtain ⟨ih0, ih1⟩ := larderlaw16_kept.mono_l k
  unfold larderlaw16_kept.f
  repeat' first
      | (with_reducible exact ih0 _ _)
      | (with_reducible exact ih1 _ _)
      | (with_reducible exact larderlaw16_sameOps.mono _ _ _)
      | (with_reducible exact LeO.refl _)
      | (with_reducible exact LeO.none _)
      | (with_reducible refine LeO.ite ?_ ?_)
      | (with_reducible refine LeO.bind ?_ (fun _ => ?_))
      | exact ih0 _ _
      | exact ih1 _ _
      | exact larderlaw16_sameOps.mono _ _ _
      | exact LeO.none _
      | refine LeO.ite ?_ ?_
      | refine LeO.bind ?_ (fun _ => ?_)
set_option maxHeartbeats 8000000 in
set_option maxRecDepth 100000 in
theorem larderlaw16_kept.calls (k : Nat) (A0 : Option Addr) (c0 : Nat) (l0 : List (S35)) (A1 : Option Addr) (c1 : Nat) (l1 : List (S35)) (r : Bool) (w : World) (hr0 : Kd.C k35 w A0 l0.length l0) (hc0 : l0.length ≤ c0) (hr1 : Kd.C k35 w A1 l1.length l1) (hc1 : l1.length ≤ c1) (h : larderlaw16_kept.f k l0 l1 = some r) :
    Calls Try.prog 11 #[.slice A0 l0.length c0, .slice A1 l1.length c1] w fun e w' => e = .returned (.bool r) ∧ Below w.heap.size w w' := by
  have HR0 := Aside0.mk hr0
  have HC0 := Aside0.mk hc0
  clear hr0 hc0
  have HR1 := Aside0.mk hr1
  have HC1 := Aside0.mk hc1
  clear hr1 hc1
  have HB := Aside0.mk (Below.refl w.heap.size w)
  have H : ((larderlaw16_sameOps.f k l0 l1).bind fun t165 => (if t165 = true then (if 0 ≤ (wrap64 ((l0.length : Int) + 1)) then (if (wrap64 ((l0.length : Int) + 1)) ≤ (l0.length : Int) then ((some (l0.take ((wrap64 ((l0.length : Int) + 1)) : Int).toNat : List (S35))).bind fun y166 => (if 0 ≤ (l0.length : Int) then (if (l0.length : Int) < (y166.length : Int) then (larderlaw16_kept.j0 k l0 (((rd_T35 y166 (l0.length : Int)).f2) != (-7))) else (none)) else (none))) else (none)) else (none)) else (larderlaw16_kept.j0 k l0 true))) = some r := h
  clear h
  have HC3 := Aside0.mk H
  clear H
  go_enter Try.func11, Try.ntmps11
  go_upto_region 1 with (fail)
  go_cut [24] (fun v24 wc => ∃ (kq : Nat) (x24_2 : Bool), v24 = .bool x24_2 ∧ Aside0 (larderlaw16_kept.j0 kq l0 x24_2 = some r) ∧ Aside0 (kq ≤ k) ∧ Aside0 (Below w.heap.size w wc))
  case first =>
    have H := HC3.out
    clear HC3
    replace H := Option.bind_eq_some_iff.mp H
    obtain ⟨t165, A40, H⟩ := H
    replace H : (if t165 = true then (if 0 ≤ (wrap64 ((l0.length : Int) + 1)) then (if (wrap64 ((l0.length : Int) + 1)) ≤ (l0.length : Int) then ((some (l0.take ((wrap64 ((l0.length : Int) + 1)) : Int).toNat : List (S35))).bind fun y166 => (if 0 ≤ (l0.length : Int) then (if (l0.length : Int) < (y166.length : Int) then (larderlaw16_kept.j0 k l0 (((rd_T35 y166 (l0.length : Int)).f2) != (-7))) else (none)) else (none))) else (none)) else (none)) else (larderlaw16_kept.j0 k l0 true)) = some r := H
    have A4 := Aside0.mk A40
    clear A40
    by_cases c5 : t165 = true
    · subst c5
      have H1 : (if 0 ≤ (wrap64 ((l0.length : Int) + 1)) then (if (wrap64 ((l0.length : Int) + 1)) ≤ (l0.length : Int) then ((some (l0.take ((wrap64 ((l0.length : Int) + 1)) : Int).toNat : List (S35))).bind fun y166 => (if 0 ≤ (l0.length : Int) then (if (l0.length : Int) < (y166.length : Int) then (larderlaw16_kept.j0 k l0 (((rd_T35 y166 (l0.length : Int)).f2) != (-7))) else (none)) else (none))) else (none)) else (none)) = some r := by rw [if_pos rfl] at H; exact H
      clear H
      have H := H1
      clear H1
      obtain ⟨ji6, hji6⟩ : ∃ j_ : Int, (wrap64 ((l0.length : Int) + 1)) = j_ := ⟨_, rfl⟩
      replace H : (if 0 ≤ (ji6) then (if (ji6) ≤ (l0.length : Int) then ((some (l0.take ((ji6) : Int).toNat : List (S35))).bind fun y166 => (if 0 ≤ (l0.length : Int) then (if (l0.length : Int) < (y166.length : Int) then (larderlaw16_kept.j0 k l0 (((rd_T35 y166 (l0.length : Int)).f2) != (-7))) else (none)) else (none))) else (none)) else (none)) = some r := by first | (rw [hji6] at H; exact H) | (simp only [hji6] at H ⊢; exact H)
      (try rw [hji6] at A4)
      have hji6w : (IntKind.i64.wrap ((l0.length : Int) + 1)) = ji6 := (i64_w _).trans hji6
      by_cases c7 : 0 ≤ (ji6)
      · rw [if_pos c7] at H
        have c7b0 := eq_true c7
        have c7b1 : decide (0 ≤ (ji6)) = true := decide_eq_true c7
        clear c7
        by_cases c8 : (ji6) ≤ (l0.length : Int)
        · rw [if_pos c8] at H
          have c8b0 := eq_true c8
          have c8b1 : decide ((ji6) ≤ (l0.length : Int)) = true := decide_eq_true c8
          clear c8
          obtain ⟨y166, hy166⟩ : ∃ y_ : List (S35), y_ = (l0.take ((ji6) : Int).toNat) := ⟨_, rfl⟩
          replace H : (if 0 ≤ (l0.length : Int) then (if (l0.length : Int) < (y166.length : Int) then (larderlaw16_kept.j0 k l0 (((rd_T35 y166 (l0.length : Int)).f2) != (-7))) else (none)) else (none)) = some r := by first | (rw [hy166]; with_reducible exact H) | (have H2_ := (Option.bind_some _ _).symm.trans H; rw [hy166]; with_reducible exact H2_) | (have H2_ := (Option.bind_some _ _).symm.trans H; with_reducible exact H2_) | with_reducible exact H | (rw [hy166]; exact H) | exact H
          have Ny166 := Aside0.mk hy166
          clear hy166
          by_cases c9 : 0 ≤ (l0.length : Int)
          · rw [if_pos c9] at H
            have c9b0 : decide (0 ≤ (l0.length : Int)) = true := decide_eq_true c9
            have c9b1 : decide (0 ≤ l0.length) = true := decide_eq_true (by omega)
            clear c9
            (first | rw [c9b0] | (simp only [i64_w, i32_w]; rw [c9b0]) | skip)
            by_cases c10 : (l0.length : Int) < (y166.length : Int)
            · rw [if_pos c10] at H
              have c10b0 : decide ((l0.length : Int) < (y166.length : Int)) = true := decide_eq_true c10
              have c10b1 : decide (l0.length < y166.length) = true := decide_eq_true (Int.ofNat_lt.mp c10)
              clear c10
              have H' := Aside0.mk H
              clear H
              go_wp2_with (first | ((with_reducible refine gate_callee (f := 14) rfl ?_); refine goesL_ (some 10) rfl rfl Try.func14 (by kernel_rfl) rfl #[.slice A0 l0.length c0, .slice A1 l1.length c1] rfl (by (try simp only [List.map_toArray, List.map_cons, List.map_nil]); first | done | rfl | (simp only [List.length_drop, List.length_take]; rfl)) ?_; (with_reducible refine (larderlaw16_sameOps.calls k _ _ l0 _ _ l1 true _ ?side1 ?side2 ?side3 ?side4 A4.out).mono ?_); (case side1 => repeat (first | exact (Kd.C_below HR0.out HB.out) | (with_reducible refine Kd.C_alloc ?_ _) | (with_reducible refine Kd.C_drewN ?_ _) | (with_reducible refine Kd.C_drew ?_))); (case side2 => exact HC0.out); (case side3 => repeat (first | exact (Kd.C_below HR1.out HB.out) | (with_reducible refine Kd.C_alloc ?_ _) | (with_reducible refine Kd.C_drewN ?_ _) | (with_reducible refine Kd.C_drew ?_))); (case side4 => exact HC1.out); rintro e w11 ⟨rfl, hb⟩; refine ⟨_, rfl, ?_⟩; have n0_ := Aside0.mk (below_step (by repeat (first | (with_reducible first | exact HB.out | apply below_alloc | apply pw_below_drewN | apply below_drew1) | exact HB.out)) hb); clear HB; have HB := n0_; clear n0_; (try clear hb); (try clear hb2); (try clear hk); (try clear hi); have q12 : ((ji6) : Int) ≤ ((l0.length : Int) : Int) := of_decide_eq_true (by first | (with_reducible assumption) | assumption); obtain ⟨i012, hi012, _, hsz12, _⟩ := info_parts info35; have hroom12 : l0.length ≤ c0 := HC0.out; have hC12 : Kd.C k35 _ A0 l0.length l0 := HR0.out; have hcut12 := cut_to (P := Try.prog) 22 35 .i64 Try.underlying22 hi012 A0 l0.length c0 (ji6) (of_decide_eq_true (by first | (with_reducible assumption) | assumption)) q12 hroom12; have hr12 := Kd.C_take (m := ((ji6) : Int).toNat) hC12 (by omega); have hy12 : y166.length = ((ji6) : Int).toNat := (by rw [Ny166.out, List.length_take]; omega); rw [← Ny166.out] at hr12; rw [← hy12] at hcut12; have HR169 := Aside0.mk hr12; have HC169 := Aside0.mk (show y166.length ≤ c0 from by omega); clear hr12 hC12 hroom12 hi012 hsz12; have KY12 := Aside0.mk hy12; clear hy12; replace q12 := eq_true q12; have p170 : 0 ≤ ((l0.length : Int) : Int) := of_decide_eq_true (by first | (with_reducible assumption) | assumption); have q170 : (l0.length : Int) < (y166.length : Int) := of_decide_eq_true (by first | (with_reducible assumption) | assumption); obtain ⟨ad170, A170_2, c170_2, A170_9, c170_9, e170, hx170_0, hx170_1, hx170_2, hx170_3, hx170_4, hx170_5, hx170_6, hx170_7, hx170_8, hx170_9, hx170_10, hx170_11, hx170_12, hx170_13, hl170_2, hi170_2, hl170_9, hi170_9⟩ := at_T35 HR169.out (l0.length : Int) p170 q170; cases e170; replace hx170_0 := (HB.out.cell (World.block_lt_of_cell? w _ hx170_0)).trans hx170_0; replace hx170_1 := (HB.out.cell (World.block_lt_of_cell? w _ hx170_1)).trans hx170_1; replace hx170_2 := (HB.out.cell (World.block_lt_of_cell? w _ hx170_2)).trans hx170_2; replace hx170_3 := (HB.out.cell (World.block_lt_of_cell? w _ hx170_3)).trans hx170_3; replace hx170_4 := (HB.out.cell (World.block_lt_of_cell? w _ hx170_4)).trans hx170_4; replace hx170_5 := (HB.out.cell (World.block_lt_of_cell? w _ hx170_5)).trans hx170_5; replace hx170_6 := (HB.out.cell (World.block_lt_of_cell? w _ hx170_6)).trans hx170_6; replace hx170_7 := (HB.out.cell (World.block_lt_of_cell? w _ hx170_7)).trans hx170_7; replace hx170_8 := (HB.out.cell (World.block_lt_of_cell? w _ hx170_8)).trans hx170_8; replace hx170_9 := (HB.out.cell (World.block_lt_of_cell? w _ hx170_9)).trans hx170_9; replace hx170_10 := (HB.out.cell (World.block_lt_of_cell? w _ hx170_10)).trans hx170_10; replace hx170_11 := (HB.out.cell (World.block_lt_of_cell? w _ hx170_11)).trans hx170_11; replace hx170_12 := (HB.out.cell (World.block_lt_of_cell? w _ hx170_12)).trans hx170_12; replace hx170_13 := (HB.out.cell (World.block_lt_of_cell? w _ hx170_13)).trans hx170_13; have HR170_2 := Aside0.mk hi170_2; have HC170_2 := Aside0.mk hl170_2; clear hi170_2 hl170_2; have HR170_9 := Aside0.mk hi170_9; have HC170_9 := Aside0.mk hl170_9; clear hi170_9 hl170_9; (try simp only [Go.IntWalk.toNatUp] at hx170_0); (try simp only [Go.IntWalk.toNatUp] at hx170_1); (try simp only [Go.IntWalk.toNatUp] at hx170_2); (try simp only [Go.IntWalk.toNatUp] at hx170_3); (try simp only [Go.IntWalk.toNatUp] at hx170_4); (try simp only [Go.IntWalk.toNatUp] at hx170_5); (try simp only [Go.IntWalk.toNatUp] at hx170_6); (try simp only [Go.IntWalk.toNatUp] at hx170_7); (try simp only [Go.IntWalk.toNatUp] at hx170_8); (try simp only [Go.IntWalk.toNatUp] at hx170_9); (try simp only [Go.IntWalk.toNatUp] at hx170_10); (try simp only [Go.IntWalk.toNatUp] at hx170_11); (try simp only [Go.IntWalk.toNatUp] at hx170_12); (try simp only [Go.IntWalk.toNatUp] at hx170_13); replace p170 := eq_true p170; replace q170 := eq_true q170))
              go_meet
              case rel => exact ⟨_, ((((rd_T35 y166 (l0.length : Int)).f2) != (-7))), (by first | rfl | (simp; done) | (simp [*]; done)), H', ⟨by first | omega | exact Nat.le_refl _⟩, ⟨by repeat (first | (with_reducible first | exact HB.out | apply below_alloc | apply pw_below_drewN | apply below_drew1) | exact HB.out)⟩⟩
            · rw [if_neg c10] at H
              exact absurd H (by simp)
          · rw [if_neg c9] at H
            exact absurd H (by simp)
        · rw [if_neg c8] at H
          exact absurd H (by simp)
      · rw [if_neg c7] at H
        exact absurd H (by simp)
    · replace c5 := Bool.eq_false_iff.mpr c5
      subst c5
      have H1 : (larderlaw16_kept.j0 k l0 true) = some r := by rw [if_neg (show ¬ (false = true) by decide)] at H; exact H
      clear H
      have H := H1
      clear H1
      have H' := Aside0.mk H
      clear H
      go_wp2_with (first | ((with_reducible refine gate_callee (f := 14) rfl ?_); refine goesL_ (some 10) rfl rfl Try.func14 (by kernel_rfl) rfl #[.slice A0 l0.length c0, .slice A1 l1.length c1] rfl (by (try simp only [List.map_toArray, List.map_cons, List.map_nil]); first | done | rfl | (simp only [List.length_drop, List.length_take]; rfl)) ?_; (with_reducible refine (larderlaw16_sameOps.calls k _ _ l0 _ _ l1 false _ ?side1 ?side2 ?side3 ?side4 A4.out).mono ?_); (case side1 => repeat (first | exact (Kd.C_below HR0.out HB.out) | (with_reducible refine Kd.C_alloc ?_ _) | (with_reducible refine Kd.C_drewN ?_ _) | (with_reducible refine Kd.C_drew ?_))); (case side2 => exact HC0.out); (case side3 => repeat (first | exact (Kd.C_below HR1.out HB.out) | (with_reducible refine Kd.C_alloc ?_ _) | (with_reducible refine Kd.C_drewN ?_ _) | (with_reducible refine Kd.C_drew ?_))); (case side4 => exact HC1.out); rintro e w13 ⟨rfl, hb⟩; refine ⟨_, rfl, ?_⟩; have n0_ := Aside0.mk (below_step (by repeat (first | (with_reducible first | exact HB.out | apply below_alloc | apply pw_below_drewN | apply below_drew1) | exact HB.out)) hb); clear HB; have HB := n0_; clear n0_; (try clear hb); (try clear hb2); (try clear hk); (try clear hi)))
      go_meet
      case rel => exact ⟨_, (true), (by first | rfl | (simp; done) | (simp [*]; done)), H', ⟨by first | omega | exact Nat.le_refl _⟩, ⟨by repeat (first | (with_reducible first | exact HB.out | apply below_alloc | apply pw_below_drewN | apply below_drew1) | exact HB.out)⟩⟩
  case rest =>
    clear HC3
    try clear c1
    try clear p1
    try clear q1
    try clear hx1
    try clear p2
    try clear c5
    try clear p6
    try clear c7
    try clear c7b0
    try clear c7b1
    try clear c8
    try clear c8b0
    try clear c8b1
    try clear c9
    try clear c9b0
    try clear c9b1
    try clear c10
    try clear c10b0
    try clear c10b1
    try clear c11
    try clear q12
    try clear hx170_0
    try clear hx170_1
    try clear hx170_10
    try clear hx170_11
    try clear hx170_12
    try clear hx170_13
    try clear hx170_2
    try clear hx170_3
    try clear hx170_4
    try clear hx170_5
    try clear hx170_6
    try clear hx170_7
    try clear hx170_8
    try clear hx170_9
    try clear p170
    try clear q12
    try clear q170
    obtain ⟨kq, x24_2, rfl, HA, HJ2, HB⟩ := hcut
    cases kq with
    | zero => exact absurd HA.out (by simp [larderlaw16_kept.j0])
    | succ kj2 =>
      have H := HA.out
      clear HA
      simp only [larderlaw16_kept.j0] at H
      by_cases c14 : x24_2 = true
      · subst c14
        have H1 : (some false) = some r := by rw [if_pos rfl] at H; exact H
        clear H
        have H := H1
        clear H1
        obtain rfl := Option.some.inj H
        go_wp2
        go_ret
        exact ⟨by first | rfl | (simp [errW_none, errW_some] <;> rfl) | (simp [*, errW_none, errW_some] <;> rfl), by repeat (first | (with_reducible first | exact HB.out | apply below_alloc | apply pw_below_drewN | apply below_drew1) | exact HB.out)⟩
      · replace c14 := Bool.eq_false_iff.mpr c14
        subst c14
        have H1 : (larderlaw16_kept.l0 kj2 l0 0) = some r := by rw [if_neg (show ¬ (false = true) by decide)] at H; exact H
        clear H
        have H := H1
        clear H1
        have H' := Aside0.mk H
        clear H
        go_wp2
        go_loopg [5] kj2 (fun kq v5 w' => ∃ (x5_2 : Int), v5 = .int .i64 x5_2 ∧ Aside0 (larderlaw16_kept.l0 kq l0 x5_2 = some r) ∧ Aside0 (kq ≤ kj2) ∧ Aside0 (Below w.heap.size w w'))
        case atStart => exact ⟨(0), (by first | rfl | (simp; done) | (simp [*]; done)), H', ⟨Nat.le_refl _⟩, ⟨by repeat (first | (with_reducible first | exact HB.out | apply below_alloc | apply pw_below_drewN | apply below_drew1) | exact HB.out)⟩⟩
        case round =>
          clear H'
          try clear c1
          try clear p1
          try clear q1
          try clear hx1
          try clear p2
          try clear c5
          try clear p6
          try clear c7
          try clear c7b0
          try clear c7b1
          try clear c8
          try clear c8b0
          try clear c8b1
          try clear c9
          try clear c9b0
          try clear c9b1
          try clear c10
          try clear c10b0
          try clear c10b1
          try clear c11
          try clear q12
          try clear c14
          try clear hx170_0
          try clear hx170_1
          try clear hx170_10
          try clear hx170_11
          try clear hx170_12
          try clear hx170_13
          try clear hx170_2
          try clear hx170_3
          try clear hx170_4
          try clear hx170_5
          try clear hx170_6
          try clear hx170_7
          try clear hx170_8
          try clear hx170_9
          try clear p1
          try clear p170
          try clear p2
          try clear p6
          try clear q1
          try clear q12
          try clear q170
          obtain ⟨x5_2, rfl, HA, HK2, HB⟩ := hrel
          cases gk with
          | zero => exact absurd HA.out (by simp [larderlaw16_kept.l0])
          | succ k2 =>
            have H := HA.out
            clear HA
            simp only [larderlaw16_kept.l0] at H
            by_cases c15 : x5_2 < (l0.length : Int)
            · rw [if_pos c15] at H
              have c15b0 : decide (x5_2 < (l0.length : Int)) = true := decide_eq_true c15
              clear c15
              by_cases c16 : 0 ≤ x5_2
              · rw [if_pos c16] at H
                have c16b0 : decide (0 ≤ x5_2) = true := decide_eq_true c16
                clear c16
                obtain ⟨ji17, hji17⟩ : ∃ j_ : Int, (wrap64 ((((rd_T35 l0 x5_2).f0.f2).length : Int) + 1)) = j_ := ⟨_, rfl⟩
                replace H : (if 0 ≤ (ji17) then (if (ji17) ≤ (((rd_T35 l0 x5_2).f0.f2).length : Int) then ((some (((rd_T35 l0 x5_2).f0.f2).take ((ji17) : Int).toNat : List (S40))).bind fun y173 => (if 0 ≤ (((rd_T35 l0 x5_2).f0.f2).length : Int) then (if (((rd_T35 l0 x5_2).f0.f2).length : Int) < (y173.length : Int) then (if ((rd_T40 y173 (((rd_T35 l0 x5_2).f0.f2).length : Int)).f0).toList = ([109, 97, 114, 107] : List UInt8) then (if 0 ≤ (wrap64 ((((rd_T35 l0 x5_2).f1.f3).length : Int) + 1)) then (if (wrap64 ((((rd_T35 l0 x5_2).f1.f3).length : Int) + 1)) ≤ (((rd_T35 l0 x5_2).f1.f3).length : Int) then ((some (((rd_T35 l0 x5_2).f1.f3).take ((wrap64 ((((rd_T35 l0 x5_2).f1.f3).length : Int) + 1)) : Int).toNat : List (S42))).bind fun y178 => (if 0 ≤ (((rd_T35 l0 x5_2).f1.f3).length : Int) then (if (((rd_T35 l0 x5_2).f1.f3).length : Int) < (y178.length : Int) then (if ((rd_T42 y178 (((rd_T35 l0 x5_2).f1.f3).length : Int)).f0).toList = ([109, 97, 114, 107] : List UInt8) then (larderlaw16_kept.l0 k2 l0 (wrap64 (x5_2 + 1))) else (some false)) else (none)) else (none))) else (none)) else (none)) else (some false)) else (none)) else (none))) else (none)) else (none)) = some r := by first | (rw [hji17] at H; exact H) | (simp only [hji17] at H ⊢; exact H)
                have hji17w : (IntKind.i64.wrap ((((rd_T35 l0 x5_2).f0.f2).length : Int) + 1)) = ji17 := (i64_w _).trans hji17
                by_cases c18 : 0 ≤ (ji17)
                · rw [if_pos c18] at H
                  have c18b0 := eq_true c18
                  have c18b1 : decide (0 ≤ (ji17)) = true := decide_eq_true c18
                  clear c18
                  by_cases c19 : (ji17) ≤ (((rd_T35 l0 x5_2).f0.f2).length : Int)
                  · rw [if_pos c19] at H
                    have c19b0 := eq_true c19
                    have c19b1 : decide ((ji17) ≤ (((rd_T35 l0 x5_2).f0.f2).length : Int)) = true := decide_eq_true c19
                    clear c19
                    obtain ⟨y173, hy173⟩ : ∃ y_ : List (S40), y_ = (((rd_T35 l0 x5_2).f0.f2).take ((ji17) : Int).toNat) := ⟨_, rfl⟩
                    replace H : (if 0 ≤ (((rd_T35 l0 x5_2).f0.f2).length : Int) then (if (((rd_T35 l0 x5_2).f0.f2).length : Int) < (y173.length : Int) then (if ((rd_T40 y173 (((rd_T35 l0 x5_2).f0.f2).length : Int)).f0).toList = ([109, 97, 114, 107] : List UInt8) then (if 0 ≤ (wrap64 ((((rd_T35 l0 x5_2).f1.f3).length : Int) + 1)) then (if (wrap64 ((((rd_T35 l0 x5_2).f1.f3).length : Int) + 1)) ≤ (((rd_T35 l0 x5_2).f1.f3).length : Int) then ((some (((rd_T35 l0 x5_2).f1.f3).take ((wrap64 ((((rd_T35 l0 x5_2).f1.f3).length : Int) + 1)) : Int).toNat : List (S42))).bind fun y178 => (if 0 ≤ (((rd_T35 l0 x5_2).f1.f3).length : Int) then (if (((rd_T35 l0 x5_2).f1.f3).length : Int) < (y178.length : Int) then (if ((rd_T42 y178 (((rd_T35 l0 x5_2).f1.f3).length : Int)).f0).toList = ([109, 97, 114, 107] : List UInt8) then (larderlaw16_kept.l0 k2 l0 (wrap64 (x5_2 + 1))) else (some false)) else (none)) else (none))) else (none)) else (none)) else (some false)) else (none)) else (none)) = some r := by first | (rw [hy173]; with_reducible exact H) | (have H2_ := (Option.bind_some _ _).symm.trans H; rw [hy173]; with_reducible exact H2_) | (have H2_ := (Option.bind_some _ _).symm.trans H; with_reducible exact H2_) | with_reducible exact H | (rw [hy173]; exact H) | exact H
                    have Ny173 := Aside0.mk hy173
                    clear hy173
                    by_cases c20 : 0 ≤ (((rd_T35 l0 x5_2).f0.f2).length : Int)
                    · rw [if_pos c20] at H
                      have c20b0 : decide (0 ≤ (((rd_T35 l0 x5_2).f0.f2).length : Int)) = true := decide_eq_true c20
                      have c20b1 : decide (0 ≤ ((rd_T35 l0 x5_2).f0.f2).length) = true := decide_eq_true (by omega)
                      clear c20
                      by_cases c21 : (((rd_T35 l0 x5_2).f0.f2).length : Int) < (y173.length : Int)
                      · rw [if_pos c21] at H
                        have c21b0 : decide ((((rd_T35 l0 x5_2).f0.f2).length : Int) < (y173.length : Int)) = true := decide_eq_true c21
                        have c21b1 : decide (((rd_T35 l0 x5_2).f0.f2).length < y173.length) = true := decide_eq_true (Int.ofNat_lt.mp c21)
                        clear c21
                        by_cases c22 : ((rd_T40 y173 (((rd_T35 l0 x5_2).f0.f2).length : Int)).f0).toList = ([109, 97, 114, 107] : List UInt8)
                        · rw [if_pos c22] at H
                          have c22b0 : (((rd_T40 y173 (((rd_T35 l0 x5_2).f0.f2).length : Int)).f0).toList == ([109, 97, 114, 107] : List UInt8)) = true := beq_iff_eq.mpr c22
                          have c22b1 : (((rd_T40 y173 (((rd_T35 l0 x5_2).f0.f2).length : Int)).f0).toList != ([109, 97, 114, 107] : List UInt8)) = false := bne_eq_false_iff_eq.mpr c22
                          clear c22
                          obtain ⟨ji23, hji23⟩ : ∃ j_ : Int, (wrap64 ((((rd_T35 l0 x5_2).f1.f3).length : Int) + 1)) = j_ := ⟨_, rfl⟩
                          replace H : (if 0 ≤ (ji23) then (if (ji23) ≤ (((rd_T35 l0 x5_2).f1.f3).length : Int) then ((some (((rd_T35 l0 x5_2).f1.f3).take ((ji23) : Int).toNat : List (S42))).bind fun y178 => (if 0 ≤ (((rd_T35 l0 x5_2).f1.f3).length : Int) then (if (((rd_T35 l0 x5_2).f1.f3).length : Int) < (y178.length : Int) then (if ((rd_T42 y178 (((rd_T35 l0 x5_2).f1.f3).length : Int)).f0).toList = ([109, 97, 114, 107] : List UInt8) then (larderlaw16_kept.l0 k2 l0 (wrap64 (x5_2 + 1))) else (some false)) else (none)) else (none))) else (none)) else (none)) = some r := by first | (rw [hji23] at H; exact H) | (simp only [hji23] at H ⊢; exact H)
                          have hji23w : (IntKind.i64.wrap ((((rd_T35 l0 x5_2).f1.f3).length : Int) + 1)) = ji23 := (i64_w _).trans hji23
                          by_cases c24 : 0 ≤ (ji23)
                          · rw [if_pos c24] at H
                            have c24b0 := eq_true c24
                            have c24b1 : decide (0 ≤ (ji23)) = true := decide_eq_true c24
                            clear c24
                            by_cases c25 : (ji23) ≤ (((rd_T35 l0 x5_2).f1.f3).length : Int)
                            · rw [if_pos c25] at H
                              have c25b0 := eq_true c25
                              have c25b1 : decide ((ji23) ≤ (((rd_T35 l0 x5_2).f1.f3).length : Int)) = true := decide_eq_true c25
                              clear c25
                              obtain ⟨y178, hy178⟩ : ∃ y_ : List (S42), y_ = (((rd_T35 l0 x5_2).f1.f3).take ((ji23) : Int).toNat) := ⟨_, rfl⟩
                              replace H : (if 0 ≤ (((rd_T35 l0 x5_2).f1.f3).length : Int) then (if (((rd_T35 l0 x5_2).f1.f3).length : Int) < (y178.length : Int) then (if ((rd_T42 y178 (((rd_T35 l0 x5_2).f1.f3).length : Int)).f0).toList = ([109, 97, 114, 107] : List UInt8) then (larderlaw16_kept.l0 k2 l0 (wrap64 (x5_2 + 1))) else (some false)) else (none)) else (none)) = some r := by first | (rw [hy178]; with_reducible exact H) | (have H2_ := (Option.bind_some _ _).symm.trans H; rw [hy178]; with_reducible exact H2_) | (have H2_ := (Option.bind_some _ _).symm.trans H; with_reducible exact H2_) | with_reducible exact H | (rw [hy178]; exact H) | exact H
                              have Ny178 := Aside0.mk hy178
                              clear hy178
                              by_cases c26 : 0 ≤ (((rd_T35 l0 x5_2).f1.f3).length : Int)
                              · rw [if_pos c26] at H
                                have c26b0 : decide (0 ≤ (((rd_T35 l0 x5_2).f1.f3).length : Int)) = true := decide_eq_true c26
                                have c26b1 : decide (0 ≤ ((rd_T35 l0 x5_2).f1.f3).length) = true := decide_eq_true (by omega)
                                clear c26
                                by_cases c27 : (((rd_T35 l0 x5_2).f1.f3).length : Int) < (y178.length : Int)
                                · rw [if_pos c27] at H
                                  have c27b0 : decide ((((rd_T35 l0 x5_2).f1.f3).length : Int) < (y178.length : Int)) = true := decide_eq_true c27
                                  have c27b1 : decide (((rd_T35 l0 x5_2).f1.f3).length < y178.length) = true := decide_eq_true (Int.ofNat_lt.mp c27)
                                  clear c27
                                  by_cases c28 : ((rd_T42 y178 (((rd_T35 l0 x5_2).f1.f3).length : Int)).f0).toList = ([109, 97, 114, 107] : List UInt8)
                                  · rw [if_pos c28] at H
                                    have c28b0 : (((rd_T42 y178 (((rd_T35 l0 x5_2).f1.f3).length : Int)).f0).toList == ([109, 97, 114, 107] : List UInt8)) = true := beq_iff_eq.mpr c28
                                    have c28b1 : (((rd_T42 y178 (((rd_T35 l0 x5_2).f1.f3).length : Int)).f0).toList != ([109, 97, 114, 107] : List UInt8)) = false := bne_eq_false_iff_eq.mpr c28
                                    clear c28
                                    have H' := Aside0.mk H
                                    clear H
                                    have p171 : 0 ≤ (x5_2 : Int) := of_decide_eq_true (by first | (with_reducible assumption) | assumption)
                                    have q171 : x5_2 < (l0.length : Int) := of_decide_eq_true (by first | (with_reducible assumption) | assumption)
                                    obtain ⟨ad171, A171_2, c171_2, A171_9, c171_9, e171, hx171_0, hx171_1, hx171_2, hx171_3, hx171_4, hx171_5, hx171_6, hx171_7, hx171_8, hx171_9, hx171_10, hx171_11, hx171_12, hx171_13, hl171_2, hi171_2, hl171_9, hi171_9⟩ := at_T35 HR0.out x5_2 p171 q171
                                    cases e171
                                    replace hx171_0 := (HB.out.cell (World.block_lt_of_cell? w _ hx171_0)).trans hx171_0
                                    replace hx171_1 := (HB.out.cell (World.block_lt_of_cell? w _ hx171_1)).trans hx171_1
                                    replace hx171_2 := (HB.out.cell (World.block_lt_of_cell? w _ hx171_2)).trans hx171_2
                                    replace hx171_3 := (HB.out.cell (World.block_lt_of_cell? w _ hx171_3)).trans hx171_3
                                    replace hx171_4 := (HB.out.cell (World.block_lt_of_cell? w _ hx171_4)).trans hx171_4
                                    replace hx171_5 := (HB.out.cell (World.block_lt_of_cell? w _ hx171_5)).trans hx171_5
                                    replace hx171_6 := (HB.out.cell (World.block_lt_of_cell? w _ hx171_6)).trans hx171_6
                                    replace hx171_7 := (HB.out.cell (World.block_lt_of_cell? w _ hx171_7)).trans hx171_7
                                    replace hx171_8 := (HB.out.cell (World.block_lt_of_cell? w _ hx171_8)).trans hx171_8
                                    replace hx171_9 := (HB.out.cell (World.block_lt_of_cell? w _ hx171_9)).trans hx171_9
                                    replace hx171_10 := (HB.out.cell (World.block_lt_of_cell? w _ hx171_10)).trans hx171_10
                                    replace hx171_11 := (HB.out.cell (World.block_lt_of_cell? w _ hx171_11)).trans hx171_11
                                    replace hx171_12 := (HB.out.cell (World.block_lt_of_cell? w _ hx171_12)).trans hx171_12
                                    replace hx171_13 := (HB.out.cell (World.block_lt_of_cell? w _ hx171_13)).trans hx171_13
                                    have HR171_2 := Aside0.mk hi171_2
                                    have HC171_2 := Aside0.mk hl171_2
                                    clear hi171_2 hl171_2
                                    have HR171_9 := Aside0.mk hi171_9
                                    have HC171_9 := Aside0.mk hl171_9
                                    clear hi171_9 hl171_9
                                    replace p171 := eq_true p171
                                    replace q171 := eq_true q171
                                    have p172 : 0 ≤ (x5_2 : Int) := of_decide_eq_true (by first | (with_reducible assumption) | assumption)
                                    have q172 : x5_2 < (l0.length : Int) := of_decide_eq_true (by first | (with_reducible assumption) | assumption)
                                    obtain ⟨ad172, A172_2, c172_2, A172_9, c172_9, e172, hx172_0, hx172_1, hx172_2, hx172_3, hx172_4, hx172_5, hx172_6, hx172_7, hx172_8, hx172_9, hx172_10, hx172_11, hx172_12, hx172_13, hl172_2, hi172_2, hl172_9, hi172_9⟩ := at_T35 HR0.out x5_2 p172 q172
                                    obtain rfl : ad171 = ad172 := (by injection e172)
                                    replace hx172_0 := (HB.out.cell (World.block_lt_of_cell? w _ hx172_0)).trans hx172_0
                                    replace hx172_1 := (HB.out.cell (World.block_lt_of_cell? w _ hx172_1)).trans hx172_1
                                    replace hx172_2 := (HB.out.cell (World.block_lt_of_cell? w _ hx172_2)).trans hx172_2
                                    replace hx172_3 := (HB.out.cell (World.block_lt_of_cell? w _ hx172_3)).trans hx172_3
                                    replace hx172_4 := (HB.out.cell (World.block_lt_of_cell? w _ hx172_4)).trans hx172_4
                                    replace hx172_5 := (HB.out.cell (World.block_lt_of_cell? w _ hx172_5)).trans hx172_5
                                    replace hx172_6 := (HB.out.cell (World.block_lt_of_cell? w _ hx172_6)).trans hx172_6
                                    replace hx172_7 := (HB.out.cell (World.block_lt_of_cell? w _ hx172_7)).trans hx172_7
                                    replace hx172_8 := (HB.out.cell (World.block_lt_of_cell? w _ hx172_8)).trans hx172_8
                                    replace hx172_9 := (HB.out.cell (World.block_lt_of_cell? w _ hx172_9)).trans hx172_9
                                    replace hx172_10 := (HB.out.cell (World.block_lt_of_cell? w _ hx172_10)).trans hx172_10
                                    replace hx172_11 := (HB.out.cell (World.block_lt_of_cell? w _ hx172_11)).trans hx172_11
                                    replace hx172_12 := (HB.out.cell (World.block_lt_of_cell? w _ hx172_12)).trans hx172_12
                                    replace hx172_13 := (HB.out.cell (World.block_lt_of_cell? w _ hx172_13)).trans hx172_13
                                    have HR172_2 := Aside0.mk hi172_2
                                    have HC172_2 := Aside0.mk hl172_2
                                    clear hi172_2 hl172_2
                                    have HR172_9 := Aside0.mk hi172_9
                                    have HC172_9 := Aside0.mk hl172_9
                                    clear hi172_9 hl172_9
                                    replace p172 := eq_true p172
                                    replace q172 := eq_true q172
                                    have ea_ := Option.some.inj (hx171_2.symm.trans hx172_2)
                                    injection ea_ with ea_ en_ ec_
                                    subst ea_
                                    subst ec_
                                    clear en_
                                    have ea_ := Option.some.inj (hx171_9.symm.trans hx172_9)
                                    injection ea_ with ea_ en_ ec_
                                    subst ea_
                                    subst ec_
                                    clear en_
                                    have q29 : ((ji17) : Int) ≤ ((((rd_T35 l0 x5_2).f0.f2).length : Int) : Int) := of_decide_eq_true (by first | (with_reducible assumption) | assumption)
                                    obtain ⟨i029, hi029, _, hsz29, _⟩ := info_parts info40
                                    have hroom29 : ((rd_T35 l0 x5_2).f0.f2).length ≤ c171_2 := HC171_2.out
                                    have hC29 : Kd.C k40 _ A171_2 ((rd_T35 l0 x5_2).f0.f2).length ((rd_T35 l0 x5_2).f0.f2) := HR171_2.out
                                    have hcut29 := cut_to (P := Try.prog) 28 40 .i64 Try.underlying28 hi029 A171_2 ((rd_T35 l0 x5_2).f0.f2).length c171_2 (ji17) (of_decide_eq_true (by first | (with_reducible assumption) | assumption)) q29 hroom29
                                    have hr29 := Kd.C_take (m := ((ji17) : Int).toNat) hC29 (by omega)
                                    have hy29 : y173.length = ((ji17) : Int).toNat := (by rw [Ny173.out, List.length_take]; omega)
                                    rw [← Ny173.out] at hr29
                                    rw [← hy29] at hcut29
                                    have HR176 := Aside0.mk hr29
                                    have HC176 := Aside0.mk (show y173.length ≤ c171_2 from by omega)
                                    clear hr29 hC29 hroom29 hi029 hsz29
                                    have KY29 := Aside0.mk hy29
                                    clear hy29
                                    replace q29 := eq_true q29
                                    have p177 : 0 ≤ ((((rd_T35 l0 x5_2).f0.f2).length : Int) : Int) := of_decide_eq_true (by first | (with_reducible assumption) | assumption)
                                    have q177 : (((rd_T35 l0 x5_2).f0.f2).length : Int) < (y173.length : Int) := of_decide_eq_true (by first | (with_reducible assumption) | assumption)
                                    obtain ⟨ad177, e177, hx177_0, hx177_1⟩ := at_T40 HR176.out (((rd_T35 l0 x5_2).f0.f2).length : Int) p177 q177
                                    cases e177
                                    replace hx177_0 := (HB.out.cell (World.block_lt_of_cell? w _ hx177_0)).trans hx177_0
                                    replace hx177_1 := (HB.out.cell (World.block_lt_of_cell? w _ hx177_1)).trans hx177_1
                                    (try simp only [Go.IntWalk.toNatUp] at hx177_0)
                                    (try simp only [Go.IntWalk.toNatUp] at hx177_1)
                                    replace p177 := eq_true p177
                                    replace q177 := eq_true q177
                                    have q30 : ((ji23) : Int) ≤ ((((rd_T35 l0 x5_2).f1.f3).length : Int) : Int) := of_decide_eq_true (by first | (with_reducible assumption) | assumption)
                                    obtain ⟨i030, hi030, _, hsz30, _⟩ := info_parts info42
                                    have hroom30 : ((rd_T35 l0 x5_2).f1.f3).length ≤ c171_9 := HC172_9.out
                                    have hC30 : Kd.C k42 _ A171_9 ((rd_T35 l0 x5_2).f1.f3).length ((rd_T35 l0 x5_2).f1.f3) := HR172_9.out
                                    have hcut30 := cut_to (P := Try.prog) 31 42 .i64 Try.underlying31 hi030 A171_9 ((rd_T35 l0 x5_2).f1.f3).length c171_9 (ji23) (of_decide_eq_true (by first | (with_reducible assumption) | assumption)) q30 hroom30
                                    have hr30 := Kd.C_take (m := ((ji23) : Int).toNat) hC30 (by omega)
                                    have hy30 : y178.length = ((ji23) : Int).toNat := (by rw [Ny178.out, List.length_take]; omega)
                                    rw [← Ny178.out] at hr30
                                    rw [← hy30] at hcut30
                                    have HR181 := Aside0.mk hr30
                                    have HC181 := Aside0.mk (show y178.length ≤ c171_9 from by omega)
                                    clear hr30 hC30 hroom30 hi030 hsz30
                                    have KY30 := Aside0.mk hy30
                                    clear hy30
                                    replace q30 := eq_true q30
                                    have p182 : 0 ≤ ((((rd_T35 l0 x5_2).f1.f3).length : Int) : Int) := of_decide_eq_true (by first | (with_reducible assumption) | assumption)
                                    have q182 : (((rd_T35 l0 x5_2).f1.f3).length : Int) < (y178.length : Int) := of_decide_eq_true (by first | (with_reducible assumption) | assumption)
                                    obtain ⟨ad182, e182, hx182_0, hx182_1, hx182_2⟩ := at_T42 HR181.out (((rd_T35 l0 x5_2).f1.f3).length : Int) p182 q182
                                    cases e182
                                    replace hx182_0 := (HB.out.cell (World.block_lt_of_cell? w _ hx182_0)).trans hx182_0
                                    replace hx182_1 := (HB.out.cell (World.block_lt_of_cell? w _ hx182_1)).trans hx182_1
                                    replace hx182_2 := (HB.out.cell (World.block_lt_of_cell? w _ hx182_2)).trans hx182_2
                                    (try simp only [Go.IntWalk.toNatUp] at hx182_0)
                                    (try simp only [Go.IntWalk.toNatUp] at hx182_1)
                                    (try simp only [Go.IntWalk.toNatUp] at hx182_2)
                                    replace p182 := eq_true p182
                                    replace q182 := eq_true q182
                                    go_wp2
                                    go_roundg k2
                                    case measure => have := HJ2.out; have := HK2.out; omega
                                    case rel => exact ⟨(wrap64 (x5_2 + 1)), (by first | rfl | (simp; done) | (simp [*]; done)), H', ⟨by have := HJ2.out; have := HK2.out; omega⟩, ⟨by repeat (first | (with_reducible first | exact HB.out | apply below_alloc | apply pw_below_drewN | apply below_drew1) | exact HB.out)⟩⟩
                                  · rw [if_neg c28] at H
                                    have c28b0 : (((rd_T42 y178 (((rd_T35 l0 x5_2).f1.f3).length : Int)).f0).toList == ([109, 97, 114, 107] : List UInt8)) = false := beq_eq_false_iff_ne.mpr c28
                                    have c28b1 : (((rd_T42 y178 (((rd_T35 l0 x5_2).f1.f3).length : Int)).f0).toList != ([109, 97, 114, 107] : List UInt8)) = true := bne_iff_ne.mpr c28
                                    obtain rfl := Option.some.inj H
                                    have p171 : 0 ≤ (x5_2 : Int) := of_decide_eq_true (by first | (with_reducible assumption) | assumption)
                                    have q171 : x5_2 < (l0.length : Int) := of_decide_eq_true (by first | (with_reducible assumption) | assumption)
                                    obtain ⟨ad171, A171_2, c171_2, A171_9, c171_9, e171, hx171_0, hx171_1, hx171_2, hx171_3, hx171_4, hx171_5, hx171_6, hx171_7, hx171_8, hx171_9, hx171_10, hx171_11, hx171_12, hx171_13, hl171_2, hi171_2, hl171_9, hi171_9⟩ := at_T35 HR0.out x5_2 p171 q171
                                    cases e171
                                    replace hx171_0 := (HB.out.cell (World.block_lt_of_cell? w _ hx171_0)).trans hx171_0
                                    replace hx171_1 := (HB.out.cell (World.block_lt_of_cell? w _ hx171_1)).trans hx171_1
                                    replace hx171_2 := (HB.out.cell (World.block_lt_of_cell? w _ hx171_2)).trans hx171_2
                                    replace hx171_3 := (HB.out.cell (World.block_lt_of_cell? w _ hx171_3)).trans hx171_3
                                    replace hx171_4 := (HB.out.cell (World.block_lt_of_cell? w _ hx171_4)).trans hx171_4
                                    replace hx171_5 := (HB.out.cell (World.block_lt_of_cell? w _ hx171_5)).trans hx171_5
                                    replace hx171_6 := (HB.out.cell (World.block_lt_of_cell? w _ hx171_6)).trans hx171_6
                                    replace hx171_7 := (HB.out.cell (World.block_lt_of_cell? w _ hx171_7)).trans hx171_7
                                    replace hx171_8 := (HB.out.cell (World.block_lt_of_cell? w _ hx171_8)).trans hx171_8
                                    replace hx171_9 := (HB.out.cell (World.block_lt_of_cell? w _ hx171_9)).trans hx171_9
                                    replace hx171_10 := (HB.out.cell (World.block_lt_of_cell? w _ hx171_10)).trans hx171_10
                                    replace hx171_11 := (HB.out.cell (World.block_lt_of_cell? w _ hx171_11)).trans hx171_11
                                    replace hx171_12 := (HB.out.cell (World.block_lt_of_cell? w _ hx171_12)).trans hx171_12
                                    replace hx171_13 := (HB.out.cell (World.block_lt_of_cell? w _ hx171_13)).trans hx171_13
                                    have HR171_2 := Aside0.mk hi171_2
                                    have HC171_2 := Aside0.mk hl171_2
                                    clear hi171_2 hl171_2
                                    have HR171_9 := Aside0.mk hi171_9
                                    have HC171_9 := Aside0.mk hl171_9
                                    clear hi171_9 hl171_9
                                    replace p171 := eq_true p171
                                    replace q171 := eq_true q171
                                    have p172 : 0 ≤ (x5_2 : Int) := of_decide_eq_true (by first | (with_reducible assumption) | assumption)
                                    have q172 : x5_2 < (l0.length : Int) := of_decide_eq_true (by first | (with_reducible assumption) | assumption)
                                    obtain ⟨ad172, A172_2, c172_2, A172_9, c172_9, e172, hx172_0, hx172_1, hx172_2, hx172_3, hx172_4, hx172_5, hx172_6, hx172_7, hx172_8, hx172_9, hx172_10, hx172_11, hx172_12, hx172_13, hl172_2, hi172_2, hl172_9, hi172_9⟩ := at_T35 HR0.out x5_2 p172 q172
                                    obtain rfl : ad171 = ad172 := (by injection e172)
                                    replace hx172_0 := (HB.out.cell (World.block_lt_of_cell? w _ hx172_0)).trans hx172_0
                                    replace hx172_1 := (HB.out.cell (World.block_lt_of_cell? w _ hx172_1)).trans hx172_1
                                    replace hx172_2 := (HB.out.cell (World.block_lt_of_cell? w _ hx172_2)).trans hx172_2
                                    replace hx172_3 := (HB.out.cell (World.block_lt_of_cell? w _ hx172_3)).trans hx172_3
                                    replace hx172_4 := (HB.out.cell (World.block_lt_of_cell? w _ hx172_4)).trans hx172_4
                                    replace hx172_5 := (HB.out.cell (World.block_lt_of_cell? w _ hx172_5)).trans hx172_5
                                    replace hx172_6 := (HB.out.cell (World.block_lt_of_cell? w _ hx172_6)).trans hx172_6
                                    replace hx172_7 := (HB.out.cell (World.block_lt_of_cell? w _ hx172_7)).trans hx172_7
                                    replace hx172_8 := (HB.out.cell (World.block_lt_of_cell? w _ hx172_8)).trans hx172_8
                                    replace hx172_9 := (HB.out.cell (World.block_lt_of_cell? w _ hx172_9)).trans hx172_9
                                    replace hx172_10 := (HB.out.cell (World.block_lt_of_cell? w _ hx172_10)).trans hx172_10
                                    replace hx172_11 := (HB.out.cell (World.block_lt_of_cell? w _ hx172_11)).trans hx172_11
                                    replace hx172_12 := (HB.out.cell (World.block_lt_of_cell? w _ hx172_12)).trans hx172_12
                                    replace hx172_13 := (HB.out.cell (World.block_lt_of_cell? w _ hx172_13)).trans hx172_13
                                    have HR172_2 := Aside0.mk hi172_2
                                    have HC172_2 := Aside0.mk hl172_2
                                    clear hi172_2 hl172_2
                                    have HR172_9 := Aside0.mk hi172_9
                                    have HC172_9 := Aside0.mk hl172_9
                                    clear hi172_9 hl172_9
                                    replace p172 := eq_true p172
                                    replace q172 := eq_true q172
                                    have ea_ := Option.some.inj (hx171_2.symm.trans hx172_2)
                                    injection ea_ with ea_ en_ ec_
                                    subst ea_
                                    subst ec_
                                    clear en_
                                    have ea_ := Option.some.inj (hx171_9.symm.trans hx172_9)
                                    injection ea_ with ea_ en_ ec_
                                    subst ea_
                                    subst ec_
                                    clear en_
                                    have q31 : ((ji17) : Int) ≤ ((((rd_T35 l0 x5_2).f0.f2).length : Int) : Int) := of_decide_eq_true (by first | (with_reducible assumption) | assumption)
                                    obtain ⟨i031, hi031, _, hsz31, _⟩ := info_parts info40
                                    have hroom31 : ((rd_T35 l0 x5_2).f0.f2).length ≤ c171_2 := HC171_2.out
                                    have hC31 : Kd.C k40 _ A171_2 ((rd_T35 l0 x5_2).f0.f2).length ((rd_T35 l0 x5_2).f0.f2) := HR171_2.out
                                    have hcut31 := cut_to (P := Try.prog) 28 40 .i64 Try.underlying28 hi031 A171_2 ((rd_T35 l0 x5_2).f0.f2).length c171_2 (ji17) (of_decide_eq_true (by first | (with_reducible assumption) | assumption)) q31 hroom31
                                    have hr31 := Kd.C_take (m := ((ji17) : Int).toNat) hC31 (by omega)
                                    have hy31 : y173.length = ((ji17) : Int).toNat := (by rw [Ny173.out, List.length_take]; omega)
                                    rw [← Ny173.out] at hr31
                                    rw [← hy31] at hcut31
                                    have HR176 := Aside0.mk hr31
                                    have HC176 := Aside0.mk (show y173.length ≤ c171_2 from by omega)
                                    clear hr31 hC31 hroom31 hi031 hsz31
                                    have KY31 := Aside0.mk hy31
                                    clear hy31
                                    replace q31 := eq_true q31
                                    have p177 : 0 ≤ ((((rd_T35 l0 x5_2).f0.f2).length : Int) : Int) := of_decide_eq_true (by first | (with_reducible assumption) | assumption)
                                    have q177 : (((rd_T35 l0 x5_2).f0.f2).length : Int) < (y173.length : Int) := of_decide_eq_true (by first | (with_reducible assumption) | assumption)
                                    obtain ⟨ad177, e177, hx177_0, hx177_1⟩ := at_T40 HR176.out (((rd_T35 l0 x5_2).f0.f2).length : Int) p177 q177
                                    cases e177
                                    replace hx177_0 := (HB.out.cell (World.block_lt_of_cell? w _ hx177_0)).trans hx177_0
                                    replace hx177_1 := (HB.out.cell (World.block_lt_of_cell? w _ hx177_1)).trans hx177_1
                                    (try simp only [Go.IntWalk.toNatUp] at hx177_0)
                                    (try simp only [Go.IntWalk.toNatUp] at hx177_1)
                                    replace p177 := eq_true p177
                                    replace q177 := eq_true q177
                                    have q32 : ((ji23) : Int) ≤ ((((rd_T35 l0 x5_2).f1.f3).length : Int) : Int) := of_decide_eq_true (by first | (with_reducible assumption) | assumption)
                                    obtain ⟨i032, hi032, _, hsz32, _⟩ := info_parts info42
                                    have hroom32 : ((rd_T35 l0 x5_2).f1.f3).length ≤ c171_9 := HC172_9.out
                                    have hC32 : Kd.C k42 _ A171_9 ((rd_T35 l0 x5_2).f1.f3).length ((rd_T35 l0 x5_2).f1.f3) := HR172_9.out
                                    have hcut32 := cut_to (P := Try.prog) 31 42 .i64 Try.underlying31 hi032 A171_9 ((rd_T35 l0 x5_2).f1.f3).length c171_9 (ji23) (of_decide_eq_true (by first | (with_reducible assumption) | assumption)) q32 hroom32
                                    have hr32 := Kd.C_take (m := ((ji23) : Int).toNat) hC32 (by omega)
                                    have hy32 : y178.length = ((ji23) : Int).toNat := (by rw [Ny178.out, List.length_take]; omega)
                                    rw [← Ny178.out] at hr32
                                    rw [← hy32] at hcut32
                                    have HR181 := Aside0.mk hr32
                                    have HC181 := Aside0.mk (show y178.length ≤ c171_9 from by omega)
                                    clear hr32 hC32 hroom32 hi032 hsz32
                                    have KY32 := Aside0.mk hy32
                                    clear hy32
                                    replace q32 := eq_true q32
                                    have p182 : 0 ≤ ((((rd_T35 l0 x5_2).f1.f3).length : Int) : Int) := of_decide_eq_true (by first | (with_reducible assumption) | assumption)
                                    have q182 : (((rd_T35 l0 x5_2).f1.f3).length : Int) < (y178.length : Int) := of_decide_eq_true (by first | (with_reducible assumption) | assumption)
                                    obtain ⟨ad182, e182, hx182_0, hx182_1, hx182_2⟩ := at_T42 HR181.out (((rd_T35 l0 x5_2).f1.f3).length : Int) p182 q182
                                    cases e182
                                    replace hx182_0 := (HB.out.cell (World.block_lt_of_cell? w _ hx182_0)).trans hx182_0
                                    replace hx182_1 := (HB.out.cell (World.block_lt_of_cell? w _ hx182_1)).trans hx182_1
                                    replace hx182_2 := (HB.out.cell (World.block_lt_of_cell? w _ hx182_2)).trans hx182_2
                                    (try simp only [Go.IntWalk.toNatUp] at hx182_0)
                                    (try simp only [Go.IntWalk.toNatUp] at hx182_1)
                                    (try simp only [Go.IntWalk.toNatUp] at hx182_2)
                                    replace p182 := eq_true p182
                                    replace q182 := eq_true q182
                                    go_wp2
                                    go_ret
                                    exact ⟨by first | rfl | (simp [errW_none, errW_some] <;> rfl) | (simp only [← hji17, ← hji23]; first | rfl | (simp [errW_none, errW_some] <;> rfl)) | (simp [*, errW_none, errW_some] <;> rfl), by repeat (first | (with_reducible first | exact HB.out | apply below_alloc | apply pw_below_drewN | apply below_drew1) | exact HB.out)⟩
                                · rw [if_neg c27] at H
                                  exact absurd H (by simp)
                              · rw [if_neg c26] at H
                                exact absurd H (by simp)
                            · rw [if_neg c25] at H
                              exact absurd H (by simp)
                          · rw [if_neg c24] at H
                            exact absurd H (by simp)
                        · rw [if_neg c22] at H
                          have c22b0 : (((rd_T40 y173 (((rd_T35 l0 x5_2).f0.f2).length : Int)).f0).toList == ([109, 97, 114, 107] : List UInt8)) = false := beq_eq_false_iff_ne.mpr c22
                          have c22b1 : (((rd_T40 y173 (((rd_T35 l0 x5_2).f0.f2).length : Int)).f0).toList != ([109, 97, 114, 107] : List UInt8)) = true := bne_iff_ne.mpr c22
                          obtain rfl := Option.some.inj H
                          have p171 : 0 ≤ (x5_2 : Int) := of_decide_eq_true (by first | (with_reducible assumption) | assumption)
                          have q171 : x5_2 < (l0.length : Int) := of_decide_eq_true (by first | (with_reducible assumption) | assumption)
                          obtain ⟨ad171, A171_2, c171_2, A171_9, c171_9, e171, hx171_0, hx171_1, hx171_2, hx171_3, hx171_4, hx171_5, hx171_6, hx171_7, hx171_8, hx171_9, hx171_10, hx171_11, hx171_12, hx171_13, hl171_2, hi171_2, hl171_9, hi171_9⟩ := at_T35 HR0.out x5_2 p171 q171
                          cases e171
                          replace hx171_0 := (HB.out.cell (World.block_lt_of_cell? w _ hx171_0)).trans hx171_0
                          replace hx171_1 := (HB.out.cell (World.block_lt_of_cell? w _ hx171_1)).trans hx171_1
                          replace hx171_2 := (HB.out.cell (World.block_lt_of_cell? w _ hx171_2)).trans hx171_2
                          replace hx171_3 := (HB.out.cell (World.block_lt_of_cell? w _ hx171_3)).trans hx171_3
                          replace hx171_4 := (HB.out.cell (World.block_lt_of_cell? w _ hx171_4)).trans hx171_4
                          replace hx171_5 := (HB.out.cell (World.block_lt_of_cell? w _ hx171_5)).trans hx171_5
                          replace hx171_6 := (HB.out.cell (World.block_lt_of_cell? w _ hx171_6)).trans hx171_6
                          replace hx171_7 := (HB.out.cell (World.block_lt_of_cell? w _ hx171_7)).trans hx171_7
                          replace hx171_8 := (HB.out.cell (World.block_lt_of_cell? w _ hx171_8)).trans hx171_8
                          replace hx171_9 := (HB.out.cell (World.block_lt_of_cell? w _ hx171_9)).trans hx171_9
                          replace hx171_10 := (HB.out.cell (World.block_lt_of_cell? w _ hx171_10)).trans hx171_10
                          replace hx171_11 := (HB.out.cell (World.block_lt_of_cell? w _ hx171_11)).trans hx171_11
                          replace hx171_12 := (HB.out.cell (World.block_lt_of_cell? w _ hx171_12)).trans hx171_12
                          replace hx171_13 := (HB.out.cell (World.block_lt_of_cell? w _ hx171_13)).trans hx171_13
                          have HR171_2 := Aside0.mk hi171_2
                          have HC171_2 := Aside0.mk hl171_2
                          clear hi171_2 hl171_2
                          have HR171_9 := Aside0.mk hi171_9
                          have HC171_9 := Aside0.mk hl171_9
                          clear hi171_9 hl171_9
                          replace p171 := eq_true p171
                          replace q171 := eq_true q171
                          have p172 : 0 ≤ (x5_2 : Int) := of_decide_eq_true (by first | (with_reducible assumption) | assumption)
                          have q172 : x5_2 < (l0.length : Int) := of_decide_eq_true (by first | (with_reducible assumption) | assumption)
                          obtain ⟨ad172, A172_2, c172_2, A172_9, c172_9, e172, hx172_0, hx172_1, hx172_2, hx172_3, hx172_4, hx172_5, hx172_6, hx172_7, hx172_8, hx172_9, hx172_10, hx172_11, hx172_12, hx172_13, hl172_2, hi172_2, hl172_9, hi172_9⟩ := at_T35 HR0.out x5_2 p172 q172
                          obtain rfl : ad171 = ad172 := (by injection e172)
                          replace hx172_0 := (HB.out.cell (World.block_lt_of_cell? w _ hx172_0)).trans hx172_0
                          replace hx172_1 := (HB.out.cell (World.block_lt_of_cell? w _ hx172_1)).trans hx172_1
                          replace hx172_2 := (HB.out.cell (World.block_lt_of_cell? w _ hx172_2)).trans hx172_2
                          replace hx172_3 := (HB.out.cell (World.block_lt_of_cell? w _ hx172_3)).trans hx172_3
                          replace hx172_4 := (HB.out.cell (World.block_lt_of_cell? w _ hx172_4)).trans hx172_4
                          replace hx172_5 := (HB.out.cell (World.block_lt_of_cell? w _ hx172_5)).trans hx172_5
                          replace hx172_6 := (HB.out.cell (World.block_lt_of_cell? w _ hx172_6)).trans hx172_6
                          replace hx172_7 := (HB.out.cell (World.block_lt_of_cell? w _ hx172_7)).trans hx172_7
                          replace hx172_8 := (HB.out.cell (World.block_lt_of_cell? w _ hx172_8)).trans hx172_8
                          replace hx172_9 := (HB.out.cell (World.block_lt_of_cell? w _ hx172_9)).trans hx172_9
                          replace hx172_10 := (HB.out.cell (World.block_lt_of_cell? w _ hx172_10)).trans hx172_10
                          replace hx172_11 := (HB.out.cell (World.block_lt_of_cell? w _ hx172_11)).trans hx172_11
                          replace hx172_12 := (HB.out.cell (World.block_lt_of_cell? w _ hx172_12)).trans hx172_12
                          replace hx172_13 := (HB.out.cell (World.block_lt_of_cell? w _ hx172_13)).trans hx172_13
                          have HR172_2 := Aside0.mk hi172_2
                          have HC172_2 := Aside0.mk hl172_2
                          clear hi172_2 hl172_2
                          have HR172_9 := Aside0.mk hi172_9
                          have HC172_9 := Aside0.mk hl172_9
                          clear hi172_9 hl172_9
                          replace p172 := eq_true p172
                          replace q172 := eq_true q172
                          have ea_ := Option.some.inj (hx171_2.symm.trans hx172_2)
                          injection ea_ with ea_ en_ ec_
                          subst ea_
                          subst ec_
                          clear en_
                          have ea_ := Option.some.inj (hx171_9.symm.trans hx172_9)
                          injection ea_ with ea_ en_ ec_
                          subst ea_
                          subst ec_
                          clear en_
                          have q33 : ((ji17) : Int) ≤ ((((rd_T35 l0 x5_2).f0.f2).length : Int) : Int) := of_decide_eq_true (by first | (with_reducible assumption) | assumption)
                          obtain ⟨i033, hi033, _, hsz33, _⟩ := info_parts info40
                          have hroom33 : ((rd_T35 l0 x5_2).f0.f2).length ≤ c171_2 := HC171_2.out
                          have hC33 : Kd.C k40 _ A171_2 ((rd_T35 l0 x5_2).f0.f2).length ((rd_T35 l0 x5_2).f0.f2) := HR171_2.out
                          have hcut33 := cut_to (P := Try.prog) 28 40 .i64 Try.underlying28 hi033 A171_2 ((rd_T35 l0 x5_2).f0.f2).length c171_2 (ji17) (of_decide_eq_true (by first | (with_reducible assumption) | assumption)) q33 hroom33
                          have hr33 := Kd.C_take (m := ((ji17) : Int).toNat) hC33 (by omega)
                          have hy33 : y173.length = ((ji17) : Int).toNat := (by rw [Ny173.out, List.length_take]; omega)
                          rw [← Ny173.out] at hr33
                          rw [← hy33] at hcut33
                          have HR176 := Aside0.mk hr33
                          have HC176 := Aside0.mk (show y173.length ≤ c171_2 from by omega)
                          clear hr33 hC33 hroom33 hi033 hsz33
                          have KY33 := Aside0.mk hy33
                          clear hy33
                          replace q33 := eq_true q33
                          have p177 : 0 ≤ ((((rd_T35 l0 x5_2).f0.f2).length : Int) : Int) := of_decide_eq_true (by first | (with_reducible assumption) | assumption)
                          have q177 : (((rd_T35 l0 x5_2).f0.f2).length : Int) < (y173.length : Int) := of_decide_eq_true (by first | (with_reducible assumption) | assumption)
                          obtain ⟨ad177, e177, hx177_0, hx177_1⟩ := at_T40 HR176.out (((rd_T35 l0 x5_2).f0.f2).length : Int) p177 q177
                          cases e177
                          replace hx177_0 := (HB.out.cell (World.block_lt_of_cell? w _ hx177_0)).trans hx177_0
                          replace hx177_1 := (HB.out.cell (World.block_lt_of_cell? w _ hx177_1)).trans hx177_1
                          (try simp only [Go.IntWalk.toNatUp] at hx177_0)
                          (try simp only [Go.IntWalk.toNatUp] at hx177_1)
                          replace p177 := eq_true p177
                          replace q177 := eq_true q177
                          go_wp2
                          go_ret
                          exact ⟨by first | rfl | (simp [errW_none, errW_some] <;> rfl) | (simp only [← hji17]; first | rfl | (simp [errW_none, errW_some] <;> rfl)) | (simp [*, errW_none, errW_some] <;> rfl), by repeat (first | (with_reducible first | exact HB.out | apply below_alloc | apply pw_below_drewN | apply below_drew1) | exact HB.out)⟩
                      · rw [if_neg c21] at H
                        exact absurd H (by simp)
                    · rw [if_neg c20] at H
                      exact absurd H (by simp)
                  · rw [if_neg c19] at H
                    exact absurd H (by simp)
                · rw [if_neg c18] at H
                  exact absurd H (by simp)
              · rw [if_neg c16] at H
                exact absurd H (by simp)
            · rw [if_neg c15] at H
              have c15b0 : decide (x5_2 < (l0.length : Int)) = false := decide_eq_false c15
              clear c15
              obtain rfl := Option.some.inj H
              go_wp2
              go_ret
              exact ⟨by first | rfl | (simp [errW_none, errW_some] <;> rfl) | (simp [*, errW_none, errW_some] <;> rfl), by repeat (first | (with_reducible first | exact HB.out | apply below_alloc | apply pw_below_drewN | apply below_drew1) | exact HB.out)⟩

end Go.Proofs.Ytkjbbihnhbaipaa.PLinChecks
