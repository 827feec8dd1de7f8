-- Own text of this session: made by program (wip/myprint.sh over a scratch copy of the kit's print.py). Not trusted: Lean checks it.
import Derived.Test.YtoopoecopahcbaaQPlanRestocksx0
import Derived.Test.YtoopoecopahcbaaQPlanRestocksx5
namespace Go.Proofs.Ytoopoecopahcbaa.QPlanRestocks
open Go.RowKit Go.Proofs.YtoopoecopahcbaaW.PrintWords Go.Proofs.YtoopoecopahcbaaW.PrintLast Go.Proofs.YtoopoecopahcbaaW.PrintMore
attribute [local go_sem] max2_int min2_int max_two min_two max_three min_three max_four min_four   -- for this text's walks alone
set_option linter.unusedVariables false
set_option linter.unusedSimpArgs false

/-! ### larderref17_Restock: function 15 -/
mutual
def larderref17_Restock.l0 : Nat → List (S24) → List (S33) → Int → Option ((List (S33)) × Int × Int)
  | 0, _, _, _ => none
  | k + 1, x0, x5, x6 => if x6 < (x0.length : Int) then (if 0 ≤ x6 then (if x6 > 0 then (if 0 ≤ (wrap64 (x6 - 1)) then (if (wrap64 (x6 - 1)) < (x0.length : Int) then (larderref17_Restock.j1 k x0 x5 x6 ((rd_T24 x0 (wrap64 (x6 - 1))).f0) ((rd_T24 x0 x6).f0) ((rd_T24 x0 x6).f1) ((rd_T24 x0 x6).f2) ((rd_T24 x0 x6).f3) ((rd_T24 x0 x6).f4) ((rd_T24 x0 x6).f5)) else (none)) else (none)) else (larderref17_Restock.j1 k x0 x5 x6 (⟨#[]⟩ : ByteArray) ((rd_T24 x0 x6).f0) ((rd_T24 x0 x6).f1) ((rd_T24 x0 x6).f2) ((rd_T24 x0 x6).f3) ((rd_T24 x0 x6).f4) ((rd_T24 x0 x6).f5))) else (none)) else (some (x5, 0, 0))
def larderref17_Restock.j1 : Nat → List (S24) → List (S33) → Int → ByteArray → ByteArray → Int → Int → Int → Int → Int → Option ((List (S33)) × Int × Int)
  | 0, _, _, _, _, _, _, _, _, _, _ => none
  | k + 1, x0, x5, x6, x8, x116000, x116001, x116002, x116003, x116004, x116005 => (larderref17_line.f x116000 1 x8 (x6 == 0) 1).bind fun t117 => (larderref17_Restock.l1 k x0 x5 x6 t117 (([x116001, x116002, x116003, x116004] : List Int)) 0 x116000 x116001 x116002 x116003 x116004 x116005)
def larderref17_Restock.l1 : Nat → List (S24) → List (S33) → Int → Bool → List Int → Int → ByteArray → Int → Int → Int → Int → Int → Option ((List (S33)) × Int × Int)
  | 0, _, _, _, _, _, _, _, _, _, _, _, _ => none
  | k + 1, x0, x5, x6, x9, x10, x11, x116000, x116001, x116002, x116003, x116004, x116005 => if x11 < 4 then (if 0 ≤ x11 then (if x11 < (x10.length : Int) then (if (rd x10 x11) < 0 then (larderref17_Restock.l1 k x0 x5 x6 false x10 (wrap64 (x11 + 1)) x116000 x116001 x116002 x116003 x116004 x116005) else (if (rd x10 x11) > 1099511627776 then (larderref17_Restock.l1 k x0 x5 x6 false x10 (wrap64 (x11 + 1)) x116000 x116001 x116002 x116003 x116004 x116005) else (larderref17_Restock.l1 k x0 x5 x6 x9 x10 (wrap64 (x11 + 1)) x116000 x116001 x116002 x116003 x116004 x116005))) else (none)) else (none)) else (if x9 = true then (if x116005 < 1 then (larderref17_Restock.j3 k x0 x5 x6 true x116000 x116001 x116002 x116003 x116004 x116005) else (larderref17_Restock.j3 k x0 x5 x6 (decide (x116005 > 1099511627776)) x116000 x116001 x116002 x116003 x116004 x116005)) else (larderref17_Restock.j3 k x0 x5 x6 true x116000 x116001 x116002 x116003 x116004 x116005))
def larderref17_Restock.j3 : Nat → List (S24) → List (S33) → Int → Bool → ByteArray → Int → Int → Int → Int → Int → Option ((List (S33)) × Int × Int)
  | 0, _, _, _, _, _, _, _, _, _, _ => none
  | k + 1, x0, x5, x6, x78, x116000, x116001, x116002, x116003, x116004, x116005 => if x78 = true then (some (([] : List (S33)), 171, x6)) else (if (wrap64 (x116001 + x116002)) ≤ x116003 then (if (wrap64 (x116001 + x116002)) < x116004 then (if x116005 = 0 then (none) else (if x5.length < 5864062014805 then (larderref17_Restock.l0 k x0 (x5 ++ [(⟨x116000, wrap64 ((wrap64 (Int.tdiv (wrap64 ((wrap64 ((wrap64 (x116004 - (wrap64 (x116001 + x116002)))) + x116005)) - 1)) x116005)) * x116005)⟩ : S33)]) (wrap64 (x6 + 1))) else (none))) else (larderref17_Restock.l0 k x0 x5 (wrap64 (x6 + 1)))) else (larderref17_Restock.l0 k x0 x5 (wrap64 (x6 + 1))))
end
def larderref17_Restock.f (k : Nat) (l0 : List (S24)) : Option ((List (S33)) × Int × Int) := if (l0.length : Int) > 512 then (some (([] : List (S33)), 1, 0)) else (larderref17_Restock.l0 k l0 ([] : List (S33)) 0)
theorem larderref17_Restock.mono_l : ∀ k, (∀ y0 y1 y2, LeO (larderref17_Restock.l0 k y0 y1 y2) (larderref17_Restock.l0 (k + 1) y0 y1 y2)) ∧ (∀ y0 y1 y2 y3 y4 y5 y6 y7 y8 y9, LeO (larderref17_Restock.j1 k y0 y1 y2 y3 y4 y5 y6 y7 y8 y9) (larderref17_Restock.j1 (k + 1) y0 y1 y2 y3 y4 y5 y6 y7 y8 y9)) ∧ (∀ y0 y1 y2 y3 y4 y5 y6 y7 y8 y9 y10 y11, LeO (larderref17_Restock.l1 k y0 y1 y2 y3 y4 y5 y6 y7 y8 y9 y10 y11) (larderref17_Restock.l1 (k + 1) y0 y1 y2 y3 y4 y5 y6 y7 y8 y9 y10 y11)) ∧ (∀ y0 y1 y2 y3 y4 y5 y6 y7 y8 y9, LeO (larderref17_Restock.j3 k y0 y1 y2 y3 y4 y5 y6 y7 y8 y9) (larderref17_Restock.j3 (k + 1) y0 y1 y2 y3 y4 y5 y6 y7 y8 y9))
  | 0 => ⟨fun _ _ _ r h => by simp [larderref17_Restock.l0] at h, fun _ _ _ _ _ _ _ _ _ _ r h => by simp [larderref17_Restock.j1] at h, fun _ _ _ _ _ _ _ _ _ _ _ _ r h => by simp [larderref17_Restock.l1] at h, fun _ _ _ _ _ _ _ _ _ _ r h => by simp [larderref17_Restock.j3] at h⟩
  | k + 1 => by
    obtain ⟨ih0, ih1, ih2, ih3⟩ := larderref17_Restock.mono_l k
    refine ⟨?_, ?_, ?_, ?_⟩
    · intro y0 y1 y2
      unfold larderref17_Restock.l0
      repeat' first
      | (with_reducible exact ih0 _ _ _)
      | (with_reducible exact ih1 _ _ _ _ _ _ _ _ _ _)
      | (with_reducible exact ih2 _ _ _ _ _ _ _ _ _ _ _ _)
      | (with_reducible exact ih3 _ _ _ _ _ _ _ _ _ _)
      | (with_reducible exact LeO.refl _)
      | (with_reducible exact LeO.none _)
      | (with_reducible refine LeO.ite ?_ ?_)
      | (with_reducible refine LeO.bind ?_ (fun _ => ?_))
      | exact ih0 _ _ _
      | exact ih1 _ _ _ _ _ _ _ _ _ _
      | exact ih2 _ _ _ _ _ _ _ _ _ _ _ _
      | exact ih3 _ _ _ _ _ _ _ _ _ _
      | exact LeO.none _
      | refine LeO.ite ?_ ?_
      | refine LeO.bind ?_ (fun _ => ?_)
    · intro y0 y1 y2 y3 y4 y5 y6 y7 y8 y9
      unfold larderref17_Restock.j1
      repeat' first
      | (with_reducible exact ih0 _ _ _)
      | (with_reducible exact ih1 _ _ _ _ _ _ _ _ _ _)
      | (with_reducible exact ih2 _ _ _ _ _ _ _ _ _ _ _ _)
      | (with_reducible exact ih3 _ _ _ _ _ _ _ _ _ _)
      | (with_reducible exact LeO.refl _)
      | (with_reducible exact LeO.none _)
      | (with_reducible refine LeO.ite ?_ ?_)
      | (with_reducible refine LeO.bind ?_ (fun _ => ?_))
      | exact ih0 _ _ _
      | exact ih1 _ _ _ _ _ _ _ _ _ _
      | exact ih2 _ _ _ _ _ _ _ _ _ _ _ _
      | exact ih3 _ _ _ _ _ _ _ _ _ _
      | exact LeO.none _
      | refine LeO.ite ?_ ?_
      | refine LeO.bind ?_ (fun _ => ?_)
    · intro y0 y1 y2 y3 y4 y5 y6 y7 y8 y9 y10 y11
      unfold larderref17_Restock.l1
      repeat' first
      | (with_reducible exact ih0 _ _ _)
      | (with_reducible exact ih1 _ _ _ _ _ _ _ _ _ _)
      | (with_reducible exact ih2 _ _ _ _ _ _ _ _ _ _ _ _)
      | (with_reducible exact ih3 _ _ _ _ _ _ _ _ _ _)
      | (with_reducible exact LeO.refl _)
      | (with_reducible exact LeO.none _)
      | (with_reducible refine LeO.ite ?_ ?_)
      | (with_reducible refine LeO.bind ?_ (fun _ => ?_))
      | exact ih0 _ _ _
      | exact ih1 _ _ _ _ _ _ _ _ _ _
      | exact ih2 _ _ _ _ _ _ _ _ _ _ _ _
      | exact ih3 _ _ _ _ _ _ _ _ _ _
      | exact LeO.none _
      | refine LeO.ite ?_ ?_
      | refine LeO.bind ?_ (fun _ => ?_)
    · intro y0 y1 y2 y3 y4 y5 y6 y7 y8 y9
      unfold larderref17_Restock.j3
      repeat' first
      | (with_reducible exact ih0 _ _ _)
      | (with_reducible exact ih1 _ _ _ _ _ _ _ _ _ _)
      | (with_reducible exact ih2 _ _ _ _ _ _ _ _ _ _ _ _)
      | (with_reducible exact ih3 _ _ _ _ _ _ _ _ _ _)
      | (with_reducible exact LeO.refl _)
      | (with_reducible exact LeO.none _)
      | (with_reducible refine LeO.ite ?_ ?_)
      | (with_reducible refine LeO.bind ?_ (fun _ => ?_))
      | exact ih0 _ _ _
      | exact ih1 _ _ _ _ _ _ _ _ _ _
      | exact ih2 _ _ _ _ _ _ _ _ _ _ _ _
      | exact ih3 _ _ _ _ _ _ _ _ _ _
      | exact LeO.none _
      | refine LeO.ite ?_ ?_
      | refine LeO.bind ?_ (fun _ => ?_)
theorem larderref17_Restock.mono : ∀ a0 k, LeO (larderref17_Restock.f k a0) (larderref17_Restock.f (k + 1) a0) := by
  intro a0 k
  obtain ⟨ih0, ih1, ih2, ih3⟩ := larderref17_Restock.mono_l k
  unfold larderref17_Restock.f
  repeat' first
      | (with_reducible exact ih0 _ _ _)
      | (with_reducible exact ih1 _ _ _ _ _ _ _ _ _ _)
      | (with_reducible exact ih2 _ _ _ _ _ _ _ _ _ _ _ _)
      | (with_reducible exact ih3 _ _ _ _ _ _ _ _ _ _)
      | (with_reducible exact LeO.refl _)
      | (with_reducible exact LeO.none _)
      | (with_reducible refine LeO.ite ?_ ?_)
      | (with_reducible refine LeO.bind ?_ (fun _ => ?_))
      | exact ih0 _ _ _
      | exact ih1 _ _ _ _ _ _ _ _ _ _
      | exact ih2 _ _ _ _ _ _ _ _ _ _ _ _
      | exact ih3 _ _ _ _ _ _ _ _ _ _
      | exact LeO.none _
      | refine LeO.ite ?_ ?_
      | refine LeO.bind ?_ (fun _ => ?_)
set_option maxHeartbeats 8000000 in
set_option maxRecDepth 100000 in
theorem larderref17_Restock.calls (k : Nat) (A0 : Option Addr) (c0 : Nat) (l0 : List (S24)) (r1 : List (S33)) (r2 : Int) (r3 : Int) (w : World) (hr0 : Kd.C k24 w A0 l0.length l0) (hc0 : l0.length ≤ c0) (h : larderref17_Restock.f k l0 = some (r1, r2, r3)) :
    Calls Try.prog 15 #[.slice A0 l0.length c0] w fun e w' => ∃ v0_ : Value, e = .returned (.tuple #[v0_, .int .i64 r2, .int .i64 r3]) ∧ Kd.R k33 33 w' w.heap.size (fun _ => True) v0_ r1 ∧ Below w.heap.size w w' := by
  have hu24 := Try.underlying24
  have hu33 := Try.underlying33
  have HR0 := Aside0.mk hr0
  have HC0 := Aside0.mk hc0
  clear hr0 hc0
  have HB := Aside0.mk (Below.refl w.heap.size w)
  have H : (if (l0.length : Int) > 512 then (some (([] : List (S33)), 1, 0)) else (larderref17_Restock.l0 k l0 ([] : List (S33)) 0)) = some (r1, r2, r3) := h
  clear h
  by_cases c2 : (l0.length : Int) > 512
  · rw [if_pos c2] at H
    have c2b0 : decide (512 < (l0.length : Int)) = true := decide_eq_true c2
    have c2b1 : decide (512 < l0.length) = true := decide_eq_true (by omega)
    clear c2
    simp only [Option.some.injEq, Prod.mk.injEq] at H
    obtain ⟨rfl, rfl, rfl⟩ := H
    go_enter Try.func15, Try.ntmps15
    go_wp2
    go_ret3
    exact ⟨_, by first | rfl | (simp [errW_none, errW_some] <;> rfl) | (simp [*, errW_none, errW_some] <;> rfl), by first | exact Kd.R_nil _ _ _ _ _ | exact Kd.N_nil _ _ _ _ _ | exact Kd.V_nil _ _ _ _ _ | exact Kd.Q_nil _ _ _ _ _ | exact Kd.S_nil _ _ _ _ _, by repeat (first | (with_reducible first | exact HB.out | apply below_alloc | apply pw_below_drewN | apply below_drew1) | exact HB.out)⟩
  · rw [if_neg c2] at H
    have c2b0 : decide (512 < (l0.length : Int)) = false := decide_eq_false c2
    have c2b1 : decide (512 < l0.length) = false := decide_eq_false (by omega)
    clear c2
    have H' := Aside0.mk H
    clear H
    go_enter Try.func15, Try.ntmps15
    go_wp2
    go_loopg [5, 6] k (fun kq v5 v6 w' => ∃ (x5_1 : List (S33)) (x6_1 : Int), v6 = .int .i64 x6_1 ∧ Aside0 (larderref17_Restock.l0 kq l0 x5_1 x6_1 = some (r1, r2, r3)) ∧ Aside0 (kq ≤ k) ∧ Aside0 (Kd.R k33 33 w' w.heap.size (fun _ => True) v5 x5_1) ∧ Aside0 (Below w.heap.size w w'))
    case atStart => exact ⟨(([] : List (S33))), (0), (by first | rfl | (simp; done) | (simp [*]; done)), H', ⟨Nat.le_refl _⟩, ⟨by first | exact Kd.R_nil _ _ _ _ _ | exact Kd.N_nil _ _ _ _ _ | exact Kd.V_nil _ _ _ _ _ | exact Kd.Q_nil _ _ _ _ _ | exact Kd.S_nil _ _ _ _ _⟩, ⟨by repeat (first | (with_reducible first | exact HB.out | apply below_alloc | apply pw_below_drewN | apply below_drew1) | exact HB.out)⟩⟩
    case round =>
      clear H'
      try clear c1
      try clear c2
      try clear c2b0
      try clear c2b1
      try clear p2
      obtain ⟨x5_1, x6_1, rfl, HA, HK1, HO_5, HB⟩ := hrel
      cases gk with
      | zero => exact absurd HA.out (by simp [larderref17_Restock.l0])
      | succ k1 =>
        have H := HA.out
        clear HA
        simp only [larderref17_Restock.l0] at H
        by_cases c3 : x6_1 < (l0.length : Int)
        · rw [if_pos c3] at H
          have c3b0 : decide (x6_1 < (l0.length : Int)) = true := decide_eq_true c3
          clear c3
          by_cases c4 : 0 ≤ x6_1
          · rw [if_pos c4] at H
            have c4b0 : decide (0 ≤ x6_1) = true := decide_eq_true c4
            clear c4
            have HC5 := Aside0.mk H
            clear H
            have p114 : 0 ≤ (x6_1 : Int) := of_decide_eq_true (by first | (with_reducible assumption) | assumption)
            have q114 : x6_1 < (l0.length : Int) := of_decide_eq_true (by first | (with_reducible assumption) | assumption)
            obtain ⟨ad114, e114, hx114_0, hx114_1, hx114_2, hx114_3, hx114_4, hx114_5⟩ := at_T24 HR0.out x6_1 p114 q114
            cases e114
            replace hx114_0 := (HB.out.cell (World.block_lt_of_cell? w _ hx114_0)).trans hx114_0
            replace hx114_1 := (HB.out.cell (World.block_lt_of_cell? w _ hx114_1)).trans hx114_1
            replace hx114_2 := (HB.out.cell (World.block_lt_of_cell? w _ hx114_2)).trans hx114_2
            replace hx114_3 := (HB.out.cell (World.block_lt_of_cell? w _ hx114_3)).trans hx114_3
            replace hx114_4 := (HB.out.cell (World.block_lt_of_cell? w _ hx114_4)).trans hx114_4
            replace hx114_5 := (HB.out.cell (World.block_lt_of_cell? w _ hx114_5)).trans hx114_5
            replace p114 := eq_true p114
            replace q114 := eq_true q114
            go_upto_if 28 with (first | ((with_reducible refine gate_dst (N := 7) rfl ?_); refine box_event ?hg (N := 7) ?hd (cs := #[.string (⟨#[]⟩ : ByteArray), .int .i64 0, .int .i64 0, .int .i64 0, .int .i64 0, .int .i64 0]) (t := 24) ?hr ?_; (case hd => rfl); (case hg => rfl); (case hr => first | (go_simp; done) | (go_simp; rfl)); intro gb115 hg w6 hbox hb; have n0_ := Aside0.mk (Kd.R_below (by (with_reducible repeat (first | apply Kd.R_alloc | apply Kd.R_drewN | apply Kd.R_drew)); exact HO_5.out) hb); have n1_ := Aside0.mk (below_step (by repeat (first | (with_reducible first | exact HB.out | apply below_alloc | apply pw_below_drewN | apply below_drew1) | exact HB.out)) hb); have n2_ := Aside0.mk (hbox); have n3_ := Aside0.mk ((by rw [hg]; exact (below_size (by repeat (first | (with_reducible first | exact HB.out | apply below_alloc | apply pw_below_drewN | apply below_drew1) | exact HB.out))) : w.heap.size ≤ gb115)); have n4_ := Aside0.mk ((by rw [hg]; exact (below_size (by repeat (first | (with_reducible first | exact HB.out | apply below_alloc | apply pw_below_drewN | apply below_drew1) | exact HB.out))) : w.heap.size ≤ gb115)); clear HO_5; clear HB; have HO_5 := n0_; have HB := n1_; have BK115 := n2_; have GW115 := n3_; have GE115 := n4_; clear n0_ n1_ n2_ n3_ n4_; clear hb hbox hg; have hcz7_0 : w6.cell? ⟨gb115, 0, none⟩ = some (.string (⟨#[]⟩ : ByteArray)) := (blk_cell BK115.out 0).trans rfl; have hcz7_1 : w6.cell? ⟨gb115, 1, none⟩ = some (.int .i64 0) := (blk_cell BK115.out 1).trans rfl; have hcz7_2 : w6.cell? ⟨gb115, 2, none⟩ = some (.int .i64 0) := (blk_cell BK115.out 2).trans rfl; have hcz7_3 : w6.cell? ⟨gb115, 3, none⟩ = some (.int .i64 0) := (blk_cell BK115.out 3).trans rfl; have hcz7_4 : w6.cell? ⟨gb115, 4, none⟩ = some (.int .i64 0) := (blk_cell BK115.out 4).trans rfl; have hcz7_5 : w6.cell? ⟨gb115, 5, none⟩ = some (.int .i64 0) := (blk_cell BK115.out 5).trans rfl; have hfz7_0 := blk_frozen BK115.out 0; have hfz7_1 := blk_frozen BK115.out 1; have hfz7_2 := blk_frozen BK115.out 2; have hfz7_3 := blk_frozen BK115.out 3; have hfz7_4 := blk_frozen BK115.out 4; have hfz7_5 := blk_frozen BK115.out 5))
            (try simp only [Act.put, List.setIfInBounds_toArray, List.set_cons_zero, List.set_cons_succ])
            go_cut [8] (fun v8 wc => ∃ (kq : Nat) (x8_4 : ByteArray), v8 = .string x8_4 ∧ Aside0 (larderref17_Restock.j1 kq l0 x5_1 x6_1 x8_4 ((rd_T24 l0 x6_1).f0) ((rd_T24 l0 x6_1).f1) ((rd_T24 l0 x6_1).f2) ((rd_T24 l0 x6_1).f3) ((rd_T24 l0 x6_1).f4) ((rd_T24 l0 x6_1).f5) = some (r1, r2, r3)) ∧ Aside0 (kq ≤ k1) ∧ Aside0 (Kd.R k33 33 wc w.heap.size (fun _ => True) u5 x5_1) ∧ Aside0 (wc.heap[gb115]? = some (.cells #[.string ((rd_T24 l0 x6_1).f0), .int .i64 ((rd_T24 l0 x6_1).f1), .int .i64 ((rd_T24 l0 x6_1).f2), .int .i64 ((rd_T24 l0 x6_1).f3), .int .i64 ((rd_T24 l0 x6_1).f4), .int .i64 ((rd_T24 l0 x6_1).f5)] 24 (0, 0))) ∧ Aside0 (Below w.heap.size w wc))
            case first =>
              have H := HC5.out
              clear HC5
              by_cases c8 : x6_1 > 0
              · rw [if_pos c8] at H
                have c8b0 : decide (0 < x6_1) = true := decide_eq_true c8
                clear c8
                (first | rw [c8b0] | (simp only [i64_w, i32_w]; rw [c8b0]) | skip)
                obtain ⟨ji9, hji9⟩ : ∃ j_ : Int, (wrap64 (x6_1 - 1)) = j_ := ⟨_, rfl⟩
                replace H : (if 0 ≤ (ji9) then (if (ji9) < (l0.length : Int) then (larderref17_Restock.j1 k1 l0 x5_1 x6_1 ((rd_T24 l0 (ji9)).f0) ((rd_T24 l0 x6_1).f0) ((rd_T24 l0 x6_1).f1) ((rd_T24 l0 x6_1).f2) ((rd_T24 l0 x6_1).f3) ((rd_T24 l0 x6_1).f4) ((rd_T24 l0 x6_1).f5)) else (none)) else (none)) = some (r1, r2, r3) := by first | (rw [hji9] at H; exact H) | (simp only [hji9] at H ⊢; exact H)
                have hji9w : (IntKind.i64.wrap (x6_1 - 1)) = ji9 := (i64_w _).trans hji9
                by_cases c10 : 0 ≤ (ji9)
                · rw [if_pos c10] at H
                  have c10b0 : decide (0 ≤ (ji9)) = true := decide_eq_true c10
                  clear c10
                  by_cases c11 : (ji9) < (l0.length : Int)
                  · rw [if_pos c11] at H
                    have c11b0 : decide ((ji9) < (l0.length : Int)) = true := decide_eq_true c11
                    clear c11
                    have H' := Aside0.mk H
                    clear H
                    have p116 : 0 ≤ ((ji9) : Int) := of_decide_eq_true (by first | (with_reducible assumption) | assumption)
                    have q116 : (ji9) < (l0.length : Int) := of_decide_eq_true (by first | (with_reducible assumption) | assumption)
                    obtain ⟨ad116, e116, hx116_0, hx116_1, hx116_2, hx116_3, hx116_4, hx116_5⟩ := at_T24 HR0.out (ji9) p116 q116
                    obtain rfl : ad114 = ad116 := (by injection e116)
                    have hn116_0 : ad114.block ≠ gb115 := Nat.ne_of_lt (Nat.lt_of_lt_of_le (by have := World.block_lt_of_cell? _ _ hx116_0; first | rwa [add_block] at this | exact this) GW115.out)
                    have hn116_1 : ad114.block ≠ gb115 := Nat.ne_of_lt (Nat.lt_of_lt_of_le (by have := World.block_lt_of_cell? _ _ hx116_0; first | rwa [add_block] at this | exact this) GW115.out)
                    have hn116_2 : ad114.block ≠ gb115 := Nat.ne_of_lt (Nat.lt_of_lt_of_le (by have := World.block_lt_of_cell? _ _ hx116_0; first | rwa [add_block] at this | exact this) GW115.out)
                    have hn116_3 : ad114.block ≠ gb115 := Nat.ne_of_lt (Nat.lt_of_lt_of_le (by have := World.block_lt_of_cell? _ _ hx116_0; first | rwa [add_block] at this | exact this) GW115.out)
                    have hn116_4 : ad114.block ≠ gb115 := Nat.ne_of_lt (Nat.lt_of_lt_of_le (by have := World.block_lt_of_cell? _ _ hx116_0; first | rwa [add_block] at this | exact this) GW115.out)
                    have hn116_5 : ad114.block ≠ gb115 := Nat.ne_of_lt (Nat.lt_of_lt_of_le (by have := World.block_lt_of_cell? _ _ hx116_0; first | rwa [add_block] at this | exact this) GW115.out)
                    replace hx116_0 := (HB.out.cell (World.block_lt_of_cell? w _ hx116_0)).trans hx116_0
                    replace hx116_1 := (HB.out.cell (World.block_lt_of_cell? w _ hx116_1)).trans hx116_1
                    replace hx116_2 := (HB.out.cell (World.block_lt_of_cell? w _ hx116_2)).trans hx116_2
                    replace hx116_3 := (HB.out.cell (World.block_lt_of_cell? w _ hx116_3)).trans hx116_3
                    replace hx116_4 := (HB.out.cell (World.block_lt_of_cell? w _ hx116_4)).trans hx116_4
                    replace hx116_5 := (HB.out.cell (World.block_lt_of_cell? w _ hx116_5)).trans hx116_5
                    replace hx116_0 := (cell_far (p := ⟨gb115, 0, none⟩) (by first | (rw [add_block]; exact hn116_0) | (show (Addr.add _ _).block ≠ _; rw [add_block]; exact hn116_0) | exact hn116_0) (.string ((rd_T24 l0 x6_1).f0))).trans hx116_0
                    replace hx116_1 := (cell_far (p := ⟨gb115, 0, none⟩) (by first | (rw [add_block]; exact hn116_0) | (show (Addr.add _ _).block ≠ _; rw [add_block]; exact hn116_0) | exact hn116_0) (.string ((rd_T24 l0 x6_1).f0))).trans hx116_1
                    replace hx116_2 := (cell_far (p := ⟨gb115, 0, none⟩) (by first | (rw [add_block]; exact hn116_0) | (show (Addr.add _ _).block ≠ _; rw [add_block]; exact hn116_0) | exact hn116_0) (.string ((rd_T24 l0 x6_1).f0))).trans hx116_2
                    replace hx116_3 := (cell_far (p := ⟨gb115, 0, none⟩) (by first | (rw [add_block]; exact hn116_0) | (show (Addr.add _ _).block ≠ _; rw [add_block]; exact hn116_0) | exact hn116_0) (.string ((rd_T24 l0 x6_1).f0))).trans hx116_3
                    replace hx116_4 := (cell_far (p := ⟨gb115, 0, none⟩) (by first | (rw [add_block]; exact hn116_0) | (show (Addr.add _ _).block ≠ _; rw [add_block]; exact hn116_0) | exact hn116_0) (.string ((rd_T24 l0 x6_1).f0))).trans hx116_4
                    replace hx116_5 := (cell_far (p := ⟨gb115, 0, none⟩) (by first | (rw [add_block]; exact hn116_0) | (show (Addr.add _ _).block ≠ _; rw [add_block]; exact hn116_0) | exact hn116_0) (.string ((rd_T24 l0 x6_1).f0))).trans hx116_5
                    replace hx116_0 := (cell_far (p := ⟨gb115, 1, none⟩) (by first | (rw [add_block]; exact hn116_1) | (show (Addr.add _ _).block ≠ _; rw [add_block]; exact hn116_1) | exact hn116_1) (.int .i64 ((rd_T24 l0 x6_1).f1))).trans hx116_0
                    replace hx116_1 := (cell_far (p := ⟨gb115, 1, none⟩) (by first | (rw [add_block]; exact hn116_1) | (show (Addr.add _ _).block ≠ _; rw [add_block]; exact hn116_1) | exact hn116_1) (.int .i64 ((rd_T24 l0 x6_1).f1))).trans hx116_1
                    replace hx116_2 := (cell_far (p := ⟨gb115, 1, none⟩) (by first | (rw [add_block]; exact hn116_1) | (show (Addr.add _ _).block ≠ _; rw [add_block]; exact hn116_1) | exact hn116_1) (.int .i64 ((rd_T24 l0 x6_1).f1))).trans hx116_2
                    replace hx116_3 := (cell_far (p := ⟨gb115, 1, none⟩) (by first | (rw [add_block]; exact hn116_1) | (show (Addr.add _ _).block ≠ _; rw [add_block]; exact hn116_1) | exact hn116_1) (.int .i64 ((rd_T24 l0 x6_1).f1))).trans hx116_3
                    replace hx116_4 := (cell_far (p := ⟨gb115, 1, none⟩) (by first | (rw [add_block]; exact hn116_1) | (show (Addr.add _ _).block ≠ _; rw [add_block]; exact hn116_1) | exact hn116_1) (.int .i64 ((rd_T24 l0 x6_1).f1))).trans hx116_4
                    replace hx116_5 := (cell_far (p := ⟨gb115, 1, none⟩) (by first | (rw [add_block]; exact hn116_1) | (show (Addr.add _ _).block ≠ _; rw [add_block]; exact hn116_1) | exact hn116_1) (.int .i64 ((rd_T24 l0 x6_1).f1))).trans hx116_5
                    replace hx116_0 := (cell_far (p := ⟨gb115, 2, none⟩) (by first | (rw [add_block]; exact hn116_2) | (show (Addr.add _ _).block ≠ _; rw [add_block]; exact hn116_2) | exact hn116_2) (.int .i64 ((rd_T24 l0 x6_1).f2))).trans hx116_0
                    replace hx116_1 := (cell_far (p := ⟨gb115, 2, none⟩) (by first | (rw [add_block]; exact hn116_2) | (show (Addr.add _ _).block ≠ _; rw [add_block]; exact hn116_2) | exact hn116_2) (.int .i64 ((rd_T24 l0 x6_1).f2))).trans hx116_1
                    replace hx116_2 := (cell_far (p := ⟨gb115, 2, none⟩) (by first | (rw [add_block]; exact hn116_2) | (show (Addr.add _ _).block ≠ _; rw [add_block]; exact hn116_2) | exact hn116_2) (.int .i64 ((rd_T24 l0 x6_1).f2))).trans hx116_2
                    replace hx116_3 := (cell_far (p := ⟨gb115, 2, none⟩) (by first | (rw [add_block]; exact hn116_2) | (show (Addr.add _ _).block ≠ _; rw [add_block]; exact hn116_2) | exact hn116_2) (.int .i64 ((rd_T24 l0 x6_1).f2))).trans hx116_3
                    replace hx116_4 := (cell_far (p := ⟨gb115, 2, none⟩) (by first | (rw [add_block]; exact hn116_2) | (show (Addr.add _ _).block ≠ _; rw [add_block]; exact hn116_2) | exact hn116_2) (.int .i64 ((rd_T24 l0 x6_1).f2))).trans hx116_4
                    replace hx116_5 := (cell_far (p := ⟨gb115, 2, none⟩) (by first | (rw [add_block]; exact hn116_2) | (show (Addr.add _ _).block ≠ _; rw [add_block]; exact hn116_2) | exact hn116_2) (.int .i64 ((rd_T24 l0 x6_1).f2))).trans hx116_5
                    replace hx116_0 := (cell_far (p := ⟨gb115, 3, none⟩) (by first | (rw [add_block]; exact hn116_3) | (show (Addr.add _ _).block ≠ _; rw [add_block]; exact hn116_3) | exact hn116_3) (.int .i64 ((rd_T24 l0 x6_1).f3))).trans hx116_0
                    replace hx116_1 := (cell_far (p := ⟨gb115, 3, none⟩) (by first | (rw [add_block]; exact hn116_3) | (show (Addr.add _ _).block ≠ _; rw [add_block]; exact hn116_3) | exact hn116_3) (.int .i64 ((rd_T24 l0 x6_1).f3))).trans hx116_1
                    replace hx116_2 := (cell_far (p := ⟨gb115, 3, none⟩) (by first | (rw [add_block]; exact hn116_3) | (show (Addr.add _ _).block ≠ _; rw [add_block]; exact hn116_3) | exact hn116_3) (.int .i64 ((rd_T24 l0 x6_1).f3))).trans hx116_2
                    replace hx116_3 := (cell_far (p := ⟨gb115, 3, none⟩) (by first | (rw [add_block]; exact hn116_3) | (show (Addr.add _ _).block ≠ _; rw [add_block]; exact hn116_3) | exact hn116_3) (.int .i64 ((rd_T24 l0 x6_1).f3))).trans hx116_3
                    replace hx116_4 := (cell_far (p := ⟨gb115, 3, none⟩) (by first | (rw [add_block]; exact hn116_3) | (show (Addr.add _ _).block ≠ _; rw [add_block]; exact hn116_3) | exact hn116_3) (.int .i64 ((rd_T24 l0 x6_1).f3))).trans hx116_4
                    replace hx116_5 := (cell_far (p := ⟨gb115, 3, none⟩) (by first | (rw [add_block]; exact hn116_3) | (show (Addr.add _ _).block ≠ _; rw [add_block]; exact hn116_3) | exact hn116_3) (.int .i64 ((rd_T24 l0 x6_1).f3))).trans hx116_5
                    replace hx116_0 := (cell_far (p := ⟨gb115, 4, none⟩) (by first | (rw [add_block]; exact hn116_4) | (show (Addr.add _ _).block ≠ _; rw [add_block]; exact hn116_4) | exact hn116_4) (.int .i64 ((rd_T24 l0 x6_1).f4))).trans hx116_0
                    replace hx116_1 := (cell_far (p := ⟨gb115, 4, none⟩) (by first | (rw [add_block]; exact hn116_4) | (show (Addr.add _ _).block ≠ _; rw [add_block]; exact hn116_4) | exact hn116_4) (.int .i64 ((rd_T24 l0 x6_1).f4))).trans hx116_1
                    replace hx116_2 := (cell_far (p := ⟨gb115, 4, none⟩) (by first | (rw [add_block]; exact hn116_4) | (show (Addr.add _ _).block ≠ _; rw [add_block]; exact hn116_4) | exact hn116_4) (.int .i64 ((rd_T24 l0 x6_1).f4))).trans hx116_2
                    replace hx116_3 := (cell_far (p := ⟨gb115, 4, none⟩) (by first | (rw [add_block]; exact hn116_4) | (show (Addr.add _ _).block ≠ _; rw [add_block]; exact hn116_4) | exact hn116_4) (.int .i64 ((rd_T24 l0 x6_1).f4))).trans hx116_3
                    replace hx116_4 := (cell_far (p := ⟨gb115, 4, none⟩) (by first | (rw [add_block]; exact hn116_4) | (show (Addr.add _ _).block ≠ _; rw [add_block]; exact hn116_4) | exact hn116_4) (.int .i64 ((rd_T24 l0 x6_1).f4))).trans hx116_4
                    replace hx116_5 := (cell_far (p := ⟨gb115, 4, none⟩) (by first | (rw [add_block]; exact hn116_4) | (show (Addr.add _ _).block ≠ _; rw [add_block]; exact hn116_4) | exact hn116_4) (.int .i64 ((rd_T24 l0 x6_1).f4))).trans hx116_5
                    replace hx116_0 := (cell_far (p := ⟨gb115, 5, none⟩) (by first | (rw [add_block]; exact hn116_5) | (show (Addr.add _ _).block ≠ _; rw [add_block]; exact hn116_5) | exact hn116_5) (.int .i64 ((rd_T24 l0 x6_1).f5))).trans hx116_0
                    replace hx116_1 := (cell_far (p := ⟨gb115, 5, none⟩) (by first | (rw [add_block]; exact hn116_5) | (show (Addr.add _ _).block ≠ _; rw [add_block]; exact hn116_5) | exact hn116_5) (.int .i64 ((rd_T24 l0 x6_1).f5))).trans hx116_1
                    replace hx116_2 := (cell_far (p := ⟨gb115, 5, none⟩) (by first | (rw [add_block]; exact hn116_5) | (show (Addr.add _ _).block ≠ _; rw [add_block]; exact hn116_5) | exact hn116_5) (.int .i64 ((rd_T24 l0 x6_1).f5))).trans hx116_2
                    replace hx116_3 := (cell_far (p := ⟨gb115, 5, none⟩) (by first | (rw [add_block]; exact hn116_5) | (show (Addr.add _ _).block ≠ _; rw [add_block]; exact hn116_5) | exact hn116_5) (.int .i64 ((rd_T24 l0 x6_1).f5))).trans hx116_3
                    replace hx116_4 := (cell_far (p := ⟨gb115, 5, none⟩) (by first | (rw [add_block]; exact hn116_5) | (show (Addr.add _ _).block ≠ _; rw [add_block]; exact hn116_5) | exact hn116_5) (.int .i64 ((rd_T24 l0 x6_1).f5))).trans hx116_4
                    replace hx116_5 := (cell_far (p := ⟨gb115, 5, none⟩) (by first | (rw [add_block]; exact hn116_5) | (show (Addr.add _ _).block ≠ _; rw [add_block]; exact hn116_5) | exact hn116_5) (.int .i64 ((rd_T24 l0 x6_1).f5))).trans hx116_5
                    clear hn116_0
                    clear hn116_1
                    clear hn116_2
                    clear hn116_3
                    clear hn116_4
                    clear hn116_5
                    replace p116 := eq_true p116
                    replace q116 := eq_true q116
                    go_wp2
                    go_meet
                    case rel => exact ⟨_, ((rd_T24 l0 (ji9)).f0), (by first | rfl | (simp; done) | (simp only [← hji9] <;> (first | rfl | simp)) | (simp [*]; done)), H', ⟨by have := HK1.out; first | omega | exact Nat.le_refl _⟩, ⟨by (with_reducible repeat (first | apply Kd.R_alloc | apply Kd.R_drewN | apply Kd.R_drew)); exact Kd.R_mono (Kd.R_far (p := ⟨gb115, 5, none⟩) (Kd.R_far (p := ⟨gb115, 4, none⟩) (Kd.R_far (p := ⟨gb115, 3, none⟩) (Kd.R_far (p := ⟨gb115, 2, none⟩) (Kd.R_far (p := ⟨gb115, 1, none⟩) (Kd.R_far (p := ⟨gb115, 0, none⟩) (Kd.R_types HO_5.out BK115.out (by decide)) (fun _ hk => hk.2) (.string ((rd_T24 l0 x6_1).f0))) (fun _ hk => hk.2) (.int .i64 ((rd_T24 l0 x6_1).f1))) (fun _ hk => hk.2) (.int .i64 ((rd_T24 l0 x6_1).f2))) (fun _ hk => hk.2) (.int .i64 ((rd_T24 l0 x6_1).f3))) (fun _ hk => hk.2) (.int .i64 ((rd_T24 l0 x6_1).f4))) (fun _ hk => hk.2) (.int .i64 ((rd_T24 l0 x6_1).f5))) (fun _ hk => trivial)⟩, ⟨by (with_reducible repeat (first | refine blk_drewN ?_ _ | refine blk_drew ?_ | refine blk_alloc ?_ _)); refine blk_put (cs := #[.string ((rd_T24 l0 x6_1).f0), .int .i64 ((rd_T24 l0 x6_1).f1), .int .i64 ((rd_T24 l0 x6_1).f2), .int .i64 ((rd_T24 l0 x6_1).f3), .int .i64 ((rd_T24 l0 x6_1).f4), .int .i64 0]) ?_ 5 _ rfl; (with_reducible repeat (first | refine blk_drewN ?_ _ | refine blk_drew ?_ | refine blk_alloc ?_ _)); refine blk_put (cs := #[.string ((rd_T24 l0 x6_1).f0), .int .i64 ((rd_T24 l0 x6_1).f1), .int .i64 ((rd_T24 l0 x6_1).f2), .int .i64 ((rd_T24 l0 x6_1).f3), .int .i64 0, .int .i64 0]) ?_ 4 _ rfl; (with_reducible repeat (first | refine blk_drewN ?_ _ | refine blk_drew ?_ | refine blk_alloc ?_ _)); refine blk_put (cs := #[.string ((rd_T24 l0 x6_1).f0), .int .i64 ((rd_T24 l0 x6_1).f1), .int .i64 ((rd_T24 l0 x6_1).f2), .int .i64 0, .int .i64 0, .int .i64 0]) ?_ 3 _ rfl; (with_reducible repeat (first | refine blk_drewN ?_ _ | refine blk_drew ?_ | refine blk_alloc ?_ _)); refine blk_put (cs := #[.string ((rd_T24 l0 x6_1).f0), .int .i64 ((rd_T24 l0 x6_1).f1), .int .i64 0, .int .i64 0, .int .i64 0, .int .i64 0]) ?_ 2 _ rfl; (with_reducible repeat (first | refine blk_drewN ?_ _ | refine blk_drew ?_ | refine blk_alloc ?_ _)); refine blk_put (cs := #[.string ((rd_T24 l0 x6_1).f0), .int .i64 0, .int .i64 0, .int .i64 0, .int .i64 0, .int .i64 0]) ?_ 1 _ rfl; (with_reducible repeat (first | refine blk_drewN ?_ _ | refine blk_drew ?_ | refine blk_alloc ?_ _)); refine blk_put (cs := #[.string (⟨#[]⟩ : ByteArray), .int .i64 0, .int .i64 0, .int .i64 0, .int .i64 0, .int .i64 0]) ?_ 0 _ rfl; (with_reducible repeat (first | refine blk_drewN ?_ _ | refine blk_drew ?_ | refine blk_alloc ?_ _)); exact BK115.out⟩, ⟨by repeat (first | (with_reducible first | exact HB.out | apply below_alloc | apply pw_below_drewN | apply below_drew1 | refine below_set ?_ GE115.out) | exact HB.out)⟩⟩
                  · rw [if_neg c11] at H
                    exact absurd H (by simp)
                · rw [if_neg c10] at H
                  exact absurd H (by simp)
              · rw [if_neg c8] at H
                have c8b0 : decide (0 < x6_1) = false := decide_eq_false c8
                clear c8
                (first | rw [c8b0] | (simp only [i64_w, i32_w]; rw [c8b0]) | skip)
                have H' := Aside0.mk H
                clear H
                go_wp2
                go_meet
                case rel => exact ⟨_, ((⟨#[]⟩ : ByteArray)), (by first | rfl | (simp; done) | (simp [*]; done)), H', ⟨by have := HK1.out; first | omega | exact Nat.le_refl _⟩, ⟨by (with_reducible repeat (first | apply Kd.R_alloc | apply Kd.R_drewN | apply Kd.R_drew)); exact Kd.R_mono (Kd.R_far (p := ⟨gb115, 5, none⟩) (Kd.R_far (p := ⟨gb115, 4, none⟩) (Kd.R_far (p := ⟨gb115, 3, none⟩) (Kd.R_far (p := ⟨gb115, 2, none⟩) (Kd.R_far (p := ⟨gb115, 1, none⟩) (Kd.R_far (p := ⟨gb115, 0, none⟩) (Kd.R_types HO_5.out BK115.out (by decide)) (fun _ hk => hk.2) (.string ((rd_T24 l0 x6_1).f0))) (fun _ hk => hk.2) (.int .i64 ((rd_T24 l0 x6_1).f1))) (fun _ hk => hk.2) (.int .i64 ((rd_T24 l0 x6_1).f2))) (fun _ hk => hk.2) (.int .i64 ((rd_T24 l0 x6_1).f3))) (fun _ hk => hk.2) (.int .i64 ((rd_T24 l0 x6_1).f4))) (fun _ hk => hk.2) (.int .i64 ((rd_T24 l0 x6_1).f5))) (fun _ hk => trivial)⟩, ⟨by (with_reducible repeat (first | refine blk_drewN ?_ _ | refine blk_drew ?_ | refine blk_alloc ?_ _)); refine blk_put (cs := #[.string ((rd_T24 l0 x6_1).f0), .int .i64 ((rd_T24 l0 x6_1).f1), .int .i64 ((rd_T24 l0 x6_1).f2), .int .i64 ((rd_T24 l0 x6_1).f3), .int .i64 ((rd_T24 l0 x6_1).f4), .int .i64 0]) ?_ 5 _ rfl; (with_reducible repeat (first | refine blk_drewN ?_ _ | refine blk_drew ?_ | refine blk_alloc ?_ _)); refine blk_put (cs := #[.string ((rd_T24 l0 x6_1).f0), .int .i64 ((rd_T24 l0 x6_1).f1), .int .i64 ((rd_T24 l0 x6_1).f2), .int .i64 ((rd_T24 l0 x6_1).f3), .int .i64 0, .int .i64 0]) ?_ 4 _ rfl; (with_reducible repeat (first | refine blk_drewN ?_ _ | refine blk_drew ?_ | refine blk_alloc ?_ _)); refine blk_put (cs := #[.string ((rd_T24 l0 x6_1).f0), .int .i64 ((rd_T24 l0 x6_1).f1), .int .i64 ((rd_T24 l0 x6_1).f2), .int .i64 0, .int .i64 0, .int .i64 0]) ?_ 3 _ rfl; (with_reducible repeat (first | refine blk_drewN ?_ _ | refine blk_drew ?_ | refine blk_alloc ?_ _)); refine blk_put (cs := #[.string ((rd_T24 l0 x6_1).f0), .int .i64 ((rd_T24 l0 x6_1).f1), .int .i64 0, .int .i64 0, .int .i64 0, .int .i64 0]) ?_ 2 _ rfl; (with_reducible repeat (first | refine blk_drewN ?_ _ | refine blk_drew ?_ | refine blk_alloc ?_ _)); refine blk_put (cs := #[.string ((rd_T24 l0 x6_1).f0), .int .i64 0, .int .i64 0, .int .i64 0, .int .i64 0, .int .i64 0]) ?_ 1 _ rfl; (with_reducible repeat (first | refine blk_drewN ?_ _ | refine blk_drew ?_ | refine blk_alloc ?_ _)); refine blk_put (cs := #[.string (⟨#[]⟩ : ByteArray), .int .i64 0, .int .i64 0, .int .i64 0, .int .i64 0, .int .i64 0]) ?_ 0 _ rfl; (with_reducible repeat (first | refine blk_drewN ?_ _ | refine blk_drew ?_ | refine blk_alloc ?_ _)); exact BK115.out⟩, ⟨by repeat (first | (with_reducible first | exact HB.out | apply below_alloc | apply pw_below_drewN | apply below_drew1 | refine below_set ?_ GE115.out) | exact HB.out)⟩⟩
            case rest =>
              clear HC5
              try clear c1
              try clear p1
              try clear q1
              try clear hx1
              try clear c2
              try clear c2b0
              try clear c2b1
              try clear p2
              try clear c3
              try clear c3b0
              try clear c4
              try clear c4b0
              try clear p6
              try clear c8
              try clear c8b0
              try clear c10
              try clear c10b0
              try clear c11
              try clear c11b0
              try clear p11
              try clear q11
              try clear hx11
              try clear hcz7_0
              try clear hcz7_1
              try clear hcz7_2
              try clear hcz7_3
              try clear hcz7_4
              try clear hcz7_5
              try clear hfz7_0
              try clear hfz7_1
              try clear hfz7_2
              try clear hfz7_3
              try clear hfz7_4
              try clear hfz7_5
              try clear hx114_0
              try clear hx114_1
              try clear hx114_2
              try clear hx114_3
              try clear hx114_4
              try clear hx114_5
              try clear hx116_0
              try clear hx116_1
              try clear hx116_2
              try clear hx116_3
              try clear hx116_4
              try clear hx116_5
              try clear p114
              try clear p116
              try clear p2
              try clear q114
              try clear q116
              obtain ⟨kq, x8_4, rfl, HA, HJ4, HO_5, BK115, HB⟩ := hcut
              cases kq with
              | zero => exact absurd HA.out (by simp [larderref17_Restock.j1])
              | succ kj4 =>
                have H := HA.out
                clear HA
                simp only [larderref17_Restock.j1] at H
                replace H := Option.bind_eq_some_iff.mp H
                obtain ⟨t117, A120, H⟩ := H
                replace H : (larderref17_Restock.l1 kj4 l0 x5_1 x6_1 t117 (([((rd_T24 l0 x6_1).f1), ((rd_T24 l0 x6_1).f2), ((rd_T24 l0 x6_1).f3), ((rd_T24 l0 x6_1).f4)] : List Int)) 0 ((rd_T24 l0 x6_1).f0) ((rd_T24 l0 x6_1).f1) ((rd_T24 l0 x6_1).f2) ((rd_T24 l0 x6_1).f3) ((rd_T24 l0 x6_1).f4) ((rd_T24 l0 x6_1).f5)) = some (r1, r2, r3) := H
                have A12 := Aside0.mk A120
                clear A120
                obtain ⟨y118, hy118⟩ : ∃ y_ : List Int, y_ = (([((rd_T24 l0 x6_1).f1), ((rd_T24 l0 x6_1).f2), ((rd_T24 l0 x6_1).f3), ((rd_T24 l0 x6_1).f4)] : List Int)) := ⟨_, rfl⟩
                replace H : (larderref17_Restock.l1 kj4 l0 x5_1 x6_1 t117 y118 0 ((rd_T24 l0 x6_1).f0) ((rd_T24 l0 x6_1).f1) ((rd_T24 l0 x6_1).f2) ((rd_T24 l0 x6_1).f3) ((rd_T24 l0 x6_1).f4) ((rd_T24 l0 x6_1).f5)) = some (r1, r2, r3) := by first | (rw [hy118]; with_reducible exact H) | (have H2_ := (Option.bind_some _ _).symm.trans H; rw [hy118]; with_reducible exact H2_) | (have H2_ := (Option.bind_some _ _).symm.trans H; with_reducible exact H2_) | with_reducible exact H | (rw [hy118]; exact H) | exact H
                have Ny118 := Aside0.mk hy118
                clear hy118
                have H' := Aside0.mk H
                clear H
                have hcz13_0 : wc.cell? ⟨gb115, 0, none⟩ = some (.string ((rd_T24 l0 x6_1).f0)) := (blk_cell BK115.out 0).trans rfl
                have hcz13_1 : wc.cell? ⟨gb115, 1, none⟩ = some (.int .i64 ((rd_T24 l0 x6_1).f1)) := (blk_cell BK115.out 1).trans rfl
                have hcz13_2 : wc.cell? ⟨gb115, 2, none⟩ = some (.int .i64 ((rd_T24 l0 x6_1).f2)) := (blk_cell BK115.out 2).trans rfl
                have hcz13_3 : wc.cell? ⟨gb115, 3, none⟩ = some (.int .i64 ((rd_T24 l0 x6_1).f3)) := (blk_cell BK115.out 3).trans rfl
                have hcz13_4 : wc.cell? ⟨gb115, 4, none⟩ = some (.int .i64 ((rd_T24 l0 x6_1).f4)) := (blk_cell BK115.out 4).trans rfl
                have hcz13_5 : wc.cell? ⟨gb115, 5, none⟩ = some (.int .i64 ((rd_T24 l0 x6_1).f5)) := (blk_cell BK115.out 5).trans rfl
                have hfz13_0 := blk_frozen BK115.out 0
                have hfz13_1 := blk_frozen BK115.out 1
                have hfz13_2 := blk_frozen BK115.out 2
                have hfz13_3 := blk_frozen BK115.out 3
                have hfz13_4 := blk_frozen BK115.out 4
                have hfz13_5 := blk_frozen BK115.out 5
                go_wp2_with (first | ((with_reducible refine gate_callee (f := 44) rfl ?_); refine goesL_ (some 41) rfl rfl Try.func44 (by kernel_rfl) rfl #[.agg #[.string ((rd_T24 l0 x6_1).f0), .int .i64 1], .string x8_4, .bool (x6_1 == 0), .int .i64 1] rfl (by (try simp only [List.map_toArray, List.map_cons, List.map_nil]); first | done | rfl | (simp only [List.length_drop, List.length_take]; rfl)) ?_; (with_reducible refine (larderref17_line.calls ((rd_T24 l0 x6_1).f0) 1 x8_4 (x6_1 == 0) 1 t117 _ A12.out).mono ?_); rintro e w14 ⟨rfl, hb⟩; refine ⟨_, rfl, ?_⟩; have n0_ := Aside0.mk (Kd.R_below (by (with_reducible repeat (first | apply Kd.R_alloc | apply Kd.R_drewN | apply Kd.R_drew)); exact HO_5.out) hb); have n1_ := Aside0.mk (blk_below (g := gb115) (o := .cells #[.string ((rd_T24 l0 x6_1).f0), .int .i64 ((rd_T24 l0 x6_1).f1), .int .i64 ((rd_T24 l0 x6_1).f2), .int .i64 ((rd_T24 l0 x6_1).f3), .int .i64 ((rd_T24 l0 x6_1).f4), .int .i64 ((rd_T24 l0 x6_1).f5)] 24 (0, 0)) (by (with_reducible repeat (first | refine blk_drewN ?_ _ | refine blk_drew ?_ | refine blk_alloc ?_ _)); exact BK115.out) hb); have n2_ := Aside0.mk (below_step (by repeat (first | (with_reducible first | exact HB.out | apply below_alloc | apply pw_below_drewN | apply below_drew1 | refine below_set ?_ GE115.out) | exact HB.out)) hb); clear HO_5; clear BK115; clear HB; have HO_5 := n0_; have BK115 := n1_; have HB := n2_; clear n0_ n1_ n2_; (try clear hb); (try clear hb2); (try clear hk); (try clear hi); have hcz15_0 : w14.cell? ⟨gb115, 0, none⟩ = some (.string ((rd_T24 l0 x6_1).f0)) := (blk_cell BK115.out 0).trans rfl; have hcz15_1 : w14.cell? ⟨gb115, 1, none⟩ = some (.int .i64 ((rd_T24 l0 x6_1).f1)) := (blk_cell BK115.out 1).trans rfl; have hcz15_2 : w14.cell? ⟨gb115, 2, none⟩ = some (.int .i64 ((rd_T24 l0 x6_1).f2)) := (blk_cell BK115.out 2).trans rfl; have hcz15_3 : w14.cell? ⟨gb115, 3, none⟩ = some (.int .i64 ((rd_T24 l0 x6_1).f3)) := (blk_cell BK115.out 3).trans rfl; have hcz15_4 : w14.cell? ⟨gb115, 4, none⟩ = some (.int .i64 ((rd_T24 l0 x6_1).f4)) := (blk_cell BK115.out 4).trans rfl; have hcz15_5 : w14.cell? ⟨gb115, 5, none⟩ = some (.int .i64 ((rd_T24 l0 x6_1).f5)) := (blk_cell BK115.out 5).trans rfl; have hfz15_0 := blk_frozen BK115.out 0; have hfz15_1 := blk_frozen BK115.out 1; have hfz15_2 := blk_frozen BK115.out 2; have hfz15_3 := blk_frozen BK115.out 3; have hfz15_4 := blk_frozen BK115.out 4; have hfz15_5 := blk_frozen BK115.out 5) | ((with_reducible refine gate_dst (N := 50) rfl ?_); refine Kd.R_lit (Kd.int .i64) _ 3 ?hg (N := 50) ?hd (xs := ([((rd_T24 l0 x6_1).f1), ((rd_T24 l0 x6_1).f2), ((rd_T24 l0 x6_1).f3), ((rd_T24 l0 x6_1).f4)] : List Int)) (inner := [.int .i64 ((rd_T24 l0 x6_1).f1), .int .i64 ((rd_T24 l0 x6_1).f2), .int .i64 ((rd_T24 l0 x6_1).f3), .int .i64 ((rd_T24 l0 x6_1).f4)]) (ok := fun _ => True) (okp := fun _ => True) ?hr ?hp (fun _ hk => hk) trivial (Below.refl _ _) (Nat.le_refl _) (by simp) ?_; (case hd => rfl); (case hg => rfl); (case hr => first | (go_simp; done) | (go_simp; rfl)); (case hp => exact (Reps.one (show Kd.M (Kd.int .i64) _ _ _ ((rd_T24 l0 x6_1).f1) [.int .i64 ((rd_T24 l0 x6_1).f1)] from rfl) (Reps.one (show Kd.M (Kd.int .i64) _ _ _ ((rd_T24 l0 x6_1).f2) [.int .i64 ((rd_T24 l0 x6_1).f2)] from rfl) (Reps.one (show Kd.M (Kd.int .i64) _ _ _ ((rd_T24 l0 x6_1).f3) [.int .i64 ((rd_T24 l0 x6_1).f3)] from rfl) (Reps.one (show Kd.M (Kd.int .i64) _ _ _ ((rd_T24 l0 x6_1).f4) [.int .i64 ((rd_T24 l0 x6_1).f4)] from rfl) (Reps.none _ _)))))); intro v119 w16 ho17 hb hg_ hnew_; clear hg_ hnew_; (first | rw [← Ny118.out] at ho17 | (simp only [Int.reduceToNat] at ho17; rw [← Ny118.out] at ho17)); have n0_ := Aside0.mk (Kd.R_below (by (with_reducible repeat (first | apply Kd.R_alloc | apply Kd.R_drewN | apply Kd.R_drew)); exact HO_5.out) hb); have n1_ := Aside0.mk (Kd.R_lower ho17 (below_size (by repeat (first | (with_reducible first | exact HB.out | apply below_alloc | apply pw_below_drewN | apply below_drew1 | refine below_set ?_ GE115.out) | exact HB.out)))); have n2_ := Aside0.mk (blk_below (g := gb115) (o := .cells #[.string ((rd_T24 l0 x6_1).f0), .int .i64 ((rd_T24 l0 x6_1).f1), .int .i64 ((rd_T24 l0 x6_1).f2), .int .i64 ((rd_T24 l0 x6_1).f3), .int .i64 ((rd_T24 l0 x6_1).f4), .int .i64 ((rd_T24 l0 x6_1).f5)] 24 (0, 0)) (by (with_reducible repeat (first | refine blk_drewN ?_ _ | refine blk_drew ?_ | refine blk_alloc ?_ _)); exact BK115.out) hb); have n3_ := Aside0.mk (below_step (by repeat (first | (with_reducible first | exact HB.out | apply below_alloc | apply pw_below_drewN | apply below_drew1 | refine below_set ?_ GE115.out) | exact HB.out)) hb); clear HO_5; clear BK115; clear HB; have HO_5 := n0_; have HO120 := n1_; have BK115 := n2_; have HB := n3_; clear n0_ n1_ n2_ n3_; clear hb ho17))
                go_loopg [9, 11] kj4 (fun kq v9 v11 w' => ∃ (x9_3 : Bool) (x11_3 : Int), v9 = .bool x9_3 ∧ v11 = .int .i64 x11_3 ∧ Aside0 (larderref17_Restock.l1 kq l0 x5_1 x6_1 x9_3 y118 x11_3 ((rd_T24 l0 x6_1).f0) ((rd_T24 l0 x6_1).f1) ((rd_T24 l0 x6_1).f2) ((rd_T24 l0 x6_1).f3) ((rd_T24 l0 x6_1).f4) ((rd_T24 l0 x6_1).f5) = some (r1, r2, r3)) ∧ Aside0 (kq ≤ kj4) ∧ Aside0 (Kd.R k33 33 w' w.heap.size (fun _ => True) u5 x5_1) ∧ Aside0 (Kd.R (Kd.int .i64) 3 w' w.heap.size (fun _ => True) v119 y118) ∧ Aside0 (w'.heap[gb115]? = some (.cells #[.string ((rd_T24 l0 x6_1).f0), .int .i64 ((rd_T24 l0 x6_1).f1), .int .i64 ((rd_T24 l0 x6_1).f2), .int .i64 ((rd_T24 l0 x6_1).f3), .int .i64 ((rd_T24 l0 x6_1).f4), .int .i64 ((rd_T24 l0 x6_1).f5)] 24 (0, 0))) ∧ Aside0 (Below w.heap.size w w'))
                case atStart => exact ⟨(t117), (0), (by first | rfl | (simp; done) | (simp [*]; done)), (by first | rfl | (simp; done) | (simp [*]; done)), H', ⟨Nat.le_refl _⟩, ⟨by (with_reducible repeat (first | apply Kd.R_alloc | apply Kd.R_drewN | apply Kd.R_drew)); exact HO_5.out⟩, ⟨by (with_reducible repeat (first | apply Kd.R_alloc | apply Kd.R_drewN | apply Kd.R_drew)); exact HO120.out⟩, ⟨by (with_reducible repeat (first | refine blk_drewN ?_ _ | refine blk_drew ?_ | refine blk_alloc ?_ _)); exact BK115.out⟩, ⟨by repeat (first | (with_reducible first | exact HB.out | apply below_alloc | apply pw_below_drewN | apply below_drew1 | refine below_set ?_ GE115.out) | exact HB.out)⟩⟩
                case round =>
                  clear H'
                  try clear c1
                  try clear p1
                  try clear q1
                  try clear hx1
                  try clear c2
                  try clear c2b0
                  try clear c2b1
                  try clear p2
                  try clear c3
                  try clear c3b0
                  try clear c4
                  try clear c4b0
                  try clear p6
                  try clear c8
                  try clear c8b0
                  try clear c10
                  try clear c10b0
                  try clear c11
                  try clear c11b0
                  try clear p11
                  try clear q11
                  try clear hx11
                  try clear c15
                  try clear hcz13_0
                  try clear hcz13_1
                  try clear hcz13_2
                  try clear hcz13_3
                  try clear hcz13_4
                  try clear hcz13_5
                  try clear hcz15_0
                  try clear hcz15_1
                  try clear hcz15_2
                  try clear hcz15_3
                  try clear hcz15_4
                  try clear hcz15_5
                  try clear hcz7_0
                  try clear hcz7_1
                  try clear hcz7_2
                  try clear hcz7_3
                  try clear hcz7_4
                  try clear hcz7_5
                  try clear hfz13_0
                  try clear hfz13_1
                  try clear hfz13_2
                  try clear hfz13_3
                  try clear hfz13_4
                  try clear hfz13_5
                  try clear hfz15_0
                  try clear hfz15_1
                  try clear hfz15_2
                  try clear hfz15_3
                  try clear hfz15_4
                  try clear hfz15_5
                  try clear hfz7_0
                  try clear hfz7_1
                  try clear hfz7_2
                  try clear hfz7_3
                  try clear hfz7_4
                  try clear hfz7_5
                  try clear hx114_0
                  try clear hx114_1
                  try clear hx114_2
                  try clear hx114_3
                  try clear hx114_4
                  try clear hx114_5
                  try clear hx116_0
                  try clear hx116_1
                  try clear hx116_2
                  try clear hx116_3
                  try clear hx116_4
                  try clear hx116_5
                  try clear p1
                  try clear p11
                  try clear p114
                  try clear p116
                  try clear p2
                  try clear p6
                  try clear q1
                  try clear q11
                  try clear q114
                  try clear q116
                  obtain ⟨x9_3, x11_3, rfl, rfl, HA, HK3, HO_5, HO_10, BK115, HB⟩ := hrel
                  cases gk with
                  | zero => exact absurd HA.out (by simp [larderref17_Restock.l1])
                  | succ k3 =>
                    have H := HA.out
                    clear HA
                    simp only [larderref17_Restock.l1] at H
                    by_cases c18 : x11_3 < 4
                    · rw [if_pos c18] at H
                      have c18b0 : decide (x11_3 < 4) = true := decide_eq_true c18
                      clear c18
                      by_cases c19 : 0 ≤ x11_3
                      · rw [if_pos c19] at H
                        have c19b0 : decide (0 ≤ x11_3) = true := decide_eq_true c19
                        clear c19
                        by_cases c20 : x11_3 < (y118.length : Int)
                        · rw [if_pos c20] at H
                          have c20b0 : decide (x11_3 < (y118.length : Int)) = true := decide_eq_true c20
                          clear c20
                          by_cases c21 : (rd y118 x11_3) < 0
                          · rw [if_pos c21] at H
                            have c21b0 : decide ((rd y118 x11_3) < 0) = true := decide_eq_true c21
                            clear c21
                            have H' := Aside0.mk H
                            clear H
                            obtain ⟨Ao22, co22, eo22⟩ := Kd.R_slice HO_10.out
                            subst eo22
                            have p121 : 0 ≤ (x11_3 : Int) := of_decide_eq_true (by first | (with_reducible assumption) | assumption)
                            have q121 : x11_3 < (y118.length : Int) := of_decide_eq_true (by first | (with_reducible assumption) | assumption)
                            obtain ⟨ad121, e121, hx121_0⟩ := Kd.at_int (Kd.R_reads' HO_10.out).2.2 x11_3 p121 q121
                            cases e121
                            replace p121 := eq_true p121
                            replace q121 := eq_true q121
                            go_wp2
                            go_roundg k3
                            case measure => have := HK1.out; have := HJ4.out; have := HK3.out; omega
                            case rel => exact ⟨(false), (wrap64 (x11_3 + 1)), (by first | rfl | (simp; done) | (simp [*]; done)), (by first | rfl | (simp; done) | (simp [*]; done)), H', ⟨by have := HK1.out; have := HJ4.out; have := HK3.out; omega⟩, ⟨by (with_reducible repeat (first | apply Kd.R_alloc | apply Kd.R_drewN | apply Kd.R_drew)); exact HO_5.out⟩, ⟨by (with_reducible repeat (first | apply Kd.R_alloc | apply Kd.R_drewN | apply Kd.R_drew)); exact HO_10.out⟩, ⟨by (with_reducible repeat (first | refine blk_drewN ?_ _ | refine blk_drew ?_ | refine blk_alloc ?_ _)); exact BK115.out⟩, ⟨by repeat (first | (with_reducible first | exact HB.out | apply below_alloc | apply pw_below_drewN | apply below_drew1 | refine below_set ?_ GE115.out) | exact HB.out)⟩⟩
                          · rw [if_neg c21] at H
                            have c21b0 : decide ((rd y118 x11_3) < 0) = false := decide_eq_false c21
                            clear c21
                            by_cases c23 : (rd y118 x11_3) > 1099511627776
                            · rw [if_pos c23] at H
                              have c23b0 : decide (1099511627776 < (rd y118 x11_3)) = true := decide_eq_true c23
                              clear c23
                              have H' := Aside0.mk H
                              clear H
                              obtain ⟨Ao24, co24, eo24⟩ := Kd.R_slice HO_10.out
                              subst eo24
                              have p121 : 0 ≤ (x11_3 : Int) := of_decide_eq_true (by first | (with_reducible assumption) | assumption)
                              have q121 : x11_3 < (y118.length : Int) := of_decide_eq_true (by first | (with_reducible assumption) | assumption)
                              obtain ⟨ad121, e121, hx121_0⟩ := Kd.at_int (Kd.R_reads' HO_10.out).2.2 x11_3 p121 q121
                              cases e121
                              replace p121 := eq_true p121
                              replace q121 := eq_true q121
                              have p122 : 0 ≤ (x11_3 : Int) := of_decide_eq_true (by first | (with_reducible assumption) | assumption)
                              have q122 : x11_3 < (y118.length : Int) := of_decide_eq_true (by first | (with_reducible assumption) | assumption)
                              obtain ⟨ad122, e122, hx122_0⟩ := Kd.at_int (Kd.R_reads' HO_10.out).2.2 x11_3 p122 q122
                              obtain rfl : ad121 = ad122 := (by injection e122)
                              replace p122 := eq_true p122
                              replace q122 := eq_true q122
                              go_wp2
                              go_roundg k3
                              case measure => have := HK1.out; have := HJ4.out; have := HK3.out; omega
                              case rel => exact ⟨(false), (wrap64 (x11_3 + 1)), (by first | rfl | (simp; done) | (simp [*]; done)), (by first | rfl | (simp; done) | (simp [*]; done)), H', ⟨by have := HK1.out; have := HJ4.out; have := HK3.out; omega⟩, ⟨by (with_reducible repeat (first | apply Kd.R_alloc | apply Kd.R_drewN | apply Kd.R_drew)); exact HO_5.out⟩, ⟨by (with_reducible repeat (first | apply Kd.R_alloc | apply Kd.R_drewN | apply Kd.R_drew)); exact HO_10.out⟩, ⟨by (with_reducible repeat (first | refine blk_drewN ?_ _ | refine blk_drew ?_ | refine blk_alloc ?_ _)); exact BK115.out⟩, ⟨by repeat (first | (with_reducible first | exact HB.out | apply below_alloc | apply pw_below_drewN | apply below_drew1 | refine below_set ?_ GE115.out) | exact HB.out)⟩⟩
                            · rw [if_neg c23] at H
                              have c23b0 : decide (1099511627776 < (rd y118 x11_3)) = false := decide_eq_false c23
                              clear c23
                              have H' := Aside0.mk H
                              clear H
                              obtain ⟨Ao25, co25, eo25⟩ := Kd.R_slice HO_10.out
                              subst eo25
                              have p121 : 0 ≤ (x11_3 : Int) := of_decide_eq_true (by first | (with_reducible assumption) | assumption)
                              have q121 : x11_3 < (y118.length : Int) := of_decide_eq_true (by first | (with_reducible assumption) | assumption)
                              obtain ⟨ad121, e121, hx121_0⟩ := Kd.at_int (Kd.R_reads' HO_10.out).2.2 x11_3 p121 q121
                              cases e121
                              replace p121 := eq_true p121
                              replace q121 := eq_true q121
                              have p122 : 0 ≤ (x11_3 : Int) := of_decide_eq_true (by first | (with_reducible assumption) | assumption)
                              have q122 : x11_3 < (y118.length : Int) := of_decide_eq_true (by first | (with_reducible assumption) | assumption)
                              obtain ⟨ad122, e122, hx122_0⟩ := Kd.at_int (Kd.R_reads' HO_10.out).2.2 x11_3 p122 q122
                              obtain rfl : ad121 = ad122 := (by injection e122)
                              replace p122 := eq_true p122
                              replace q122 := eq_true q122
                              go_wp2
                              go_roundg k3
                              case measure => have := HK1.out; have := HJ4.out; have := HK3.out; omega
                              case rel => exact ⟨(x9_3), (wrap64 (x11_3 + 1)), (by first | rfl | (simp; done) | (simp [*]; done)), (by first | rfl | (simp; done) | (simp [*]; done)), H', ⟨by have := HK1.out; have := HJ4.out; have := HK3.out; omega⟩, ⟨by (with_reducible repeat (first | apply Kd.R_alloc | apply Kd.R_drewN | apply Kd.R_drew)); exact HO_5.out⟩, ⟨by (with_reducible repeat (first | apply Kd.R_alloc | apply Kd.R_drewN | apply Kd.R_drew)); exact HO_10.out⟩, ⟨by (with_reducible repeat (first | refine blk_drewN ?_ _ | refine blk_drew ?_ | refine blk_alloc ?_ _)); exact BK115.out⟩, ⟨by repeat (first | (with_reducible first | exact HB.out | apply below_alloc | apply pw_below_drewN | apply below_drew1 | refine below_set ?_ GE115.out) | exact HB.out)⟩⟩
                        · rw [if_neg c20] at H
                          exact absurd H (by simp)
                      · rw [if_neg c19] at H
                        exact absurd H (by simp)
                    · rw [if_neg c18] at H
                      have c18b0 : decide (x11_3 < 4) = false := decide_eq_false c18
                      clear c18
                      have HC26 := Aside0.mk H
                      clear H
                      go_upto_region 18 with (fail)
                      go_cut [78] (fun v78 wc => ∃ (kq : Nat) (x78_25 : Bool), v78 = .bool x78_25 ∧ Aside0 (larderref17_Restock.j3 kq l0 x5_1 x6_1 x78_25 ((rd_T24 l0 x6_1).f0) ((rd_T24 l0 x6_1).f1) ((rd_T24 l0 x6_1).f2) ((rd_T24 l0 x6_1).f3) ((rd_T24 l0 x6_1).f4) ((rd_T24 l0 x6_1).f5) = some (r1, r2, r3)) ∧ Aside0 (kq ≤ k3) ∧ Aside0 (Kd.R k33 33 wc w.heap.size (fun _ => True) u5 x5_1) ∧ Aside0 (wc.heap[gb115]? = some (.cells #[.string ((rd_T24 l0 x6_1).f0), .int .i64 ((rd_T24 l0 x6_1).f1), .int .i64 ((rd_T24 l0 x6_1).f2), .int .i64 ((rd_T24 l0 x6_1).f3), .int .i64 ((rd_T24 l0 x6_1).f4), .int .i64 ((rd_T24 l0 x6_1).f5)] 24 (0, 0))) ∧ Aside0 (Below w.heap.size w wc))
                      case first =>
                        have H := HC26.out
                        clear HC26
                        by_cases c27 : x9_3 = true
                        · subst c27
                          have H1 : (if ((rd_T24 l0 x6_1).f5) < 1 then (larderref17_Restock.j3 k3 l0 x5_1 x6_1 true ((rd_T24 l0 x6_1).f0) ((rd_T24 l0 x6_1).f1) ((rd_T24 l0 x6_1).f2) ((rd_T24 l0 x6_1).f3) ((rd_T24 l0 x6_1).f4) ((rd_T24 l0 x6_1).f5)) else (larderref17_Restock.j3 k3 l0 x5_1 x6_1 (decide (((rd_T24 l0 x6_1).f5) > 1099511627776)) ((rd_T24 l0 x6_1).f0) ((rd_T24 l0 x6_1).f1) ((rd_T24 l0 x6_1).f2) ((rd_T24 l0 x6_1).f3) ((rd_T24 l0 x6_1).f4) ((rd_T24 l0 x6_1).f5))) = some (r1, r2, r3) := by rw [if_pos rfl] at H; exact H
                          clear H
                          have H := H1
                          clear H1
                          by_cases c28 : ((rd_T24 l0 x6_1).f5) < 1
                          · rw [if_pos c28] at H
                            have c28b0 : decide (((rd_T24 l0 x6_1).f5) < 1) = true := decide_eq_true c28
                            clear c28
                            (first | rw [c28b0] | (simp only [i64_w, i32_w]; rw [c28b0]) | skip)
                            have H' := Aside0.mk H
                            clear H
                            have hcz29_0 : wr.cell? ⟨gb115, 0, none⟩ = some (.string ((rd_T24 l0 x6_1).f0)) := (blk_cell BK115.out 0).trans rfl
                            have hcz29_1 : wr.cell? ⟨gb115, 1, none⟩ = some (.int .i64 ((rd_T24 l0 x6_1).f1)) := (blk_cell BK115.out 1).trans rfl
                            have hcz29_2 : wr.cell? ⟨gb115, 2, none⟩ = some (.int .i64 ((rd_T24 l0 x6_1).f2)) := (blk_cell BK115.out 2).trans rfl
                            have hcz29_3 : wr.cell? ⟨gb115, 3, none⟩ = some (.int .i64 ((rd_T24 l0 x6_1).f3)) := (blk_cell BK115.out 3).trans rfl
                            have hcz29_4 : wr.cell? ⟨gb115, 4, none⟩ = some (.int .i64 ((rd_T24 l0 x6_1).f4)) := (blk_cell BK115.out 4).trans rfl
                            have hcz29_5 : wr.cell? ⟨gb115, 5, none⟩ = some (.int .i64 ((rd_T24 l0 x6_1).f5)) := (blk_cell BK115.out 5).trans rfl
                            have hfz29_0 := blk_frozen BK115.out 0
                            have hfz29_1 := blk_frozen BK115.out 1
                            have hfz29_2 := blk_frozen BK115.out 2
                            have hfz29_3 := blk_frozen BK115.out 3
                            have hfz29_4 := blk_frozen BK115.out 4
                            have hfz29_5 := blk_frozen BK115.out 5
                            go_wp2
                            go_meet
                            case rel => exact ⟨_, (true), (by first | rfl | (simp; done) | (simp [*]; done)), H', ⟨by have := HK1.out; have := HJ4.out; have := HK3.out; first | omega | exact Nat.le_refl _⟩, ⟨by (with_reducible repeat (first | apply Kd.R_alloc | apply Kd.R_drewN | apply Kd.R_drew)); exact HO_5.out⟩, ⟨by (with_reducible repeat (first | refine blk_drewN ?_ _ | refine blk_drew ?_ | refine blk_alloc ?_ _)); exact BK115.out⟩, ⟨by repeat (first | (with_reducible first | exact HB.out | apply below_alloc | apply pw_below_drewN | apply below_drew1 | refine below_set ?_ GE115.out) | exact HB.out)⟩⟩
                          · rw [if_neg c28] at H
                            have c28b0 : decide (((rd_T24 l0 x6_1).f5) < 1) = false := decide_eq_false c28
                            clear c28
                            (first | rw [c28b0] | (simp only [i64_w, i32_w]; rw [c28b0]) | skip)
                            have H' := Aside0.mk H
                            clear H
                            have hcz30_0 : wr.cell? ⟨gb115, 0, none⟩ = some (.string ((rd_T24 l0 x6_1).f0)) := (blk_cell BK115.out 0).trans rfl
                            have hcz30_1 : wr.cell? ⟨gb115, 1, none⟩ = some (.int .i64 ((rd_T24 l0 x6_1).f1)) := (blk_cell BK115.out 1).trans rfl
                            have hcz30_2 : wr.cell? ⟨gb115, 2, none⟩ = some (.int .i64 ((rd_T24 l0 x6_1).f2)) := (blk_cell BK115.out 2).trans rfl
                            have hcz30_3 : wr.cell? ⟨gb115, 3, none⟩ = some (.int .i64 ((rd_T24 l0 x6_1).f3)) := (blk_cell BK115.out 3).trans rfl
                            have hcz30_4 : wr.cell? ⟨gb115, 4, none⟩ = some (.int .i64 ((rd_T24 l0 x6_1).f4)) := (blk_cell BK115.out 4).trans rfl
                            have hcz30_5 : wr.cell? ⟨gb115, 5, none⟩ = some (.int .i64 ((rd_T24 l0 x6_1).f5)) := (blk_cell BK115.out 5).trans rfl
                            have hfz30_0 := blk_frozen BK115.out 0
                            have hfz30_1 := blk_frozen BK115.out 1
                            have hfz30_2 := blk_frozen BK115.out 2
                            have hfz30_3 := blk_frozen BK115.out 3
                            have hfz30_4 := blk_frozen BK115.out 4
                            have hfz30_5 := blk_frozen BK115.out 5
                            go_wp2
                            go_meet
                            case rel => exact ⟨_, (decide (((rd_T24 l0 x6_1).f5) > 1099511627776)), (by first | rfl | (simp; done) | (simp [*]; done)), H', ⟨by have := HK1.out; have := HJ4.out; have := HK3.out; first | omega | exact Nat.le_refl _⟩, ⟨by (with_reducible repeat (first | apply Kd.R_alloc | apply Kd.R_drewN | apply Kd.R_drew)); exact HO_5.out⟩, ⟨by (with_reducible repeat (first | refine blk_drewN ?_ _ | refine blk_drew ?_ | refine blk_alloc ?_ _)); exact BK115.out⟩, ⟨by repeat (first | (with_reducible first | exact HB.out | apply below_alloc | apply pw_below_drewN | apply below_drew1 | refine below_set ?_ GE115.out) | exact HB.out)⟩⟩
                        · replace c27 := Bool.eq_false_iff.mpr c27
                          subst c27
                          have H1 : (larderref17_Restock.j3 k3 l0 x5_1 x6_1 true ((rd_T24 l0 x6_1).f0) ((rd_T24 l0 x6_1).f1) ((rd_T24 l0 x6_1).f2) ((rd_T24 l0 x6_1).f3) ((rd_T24 l0 x6_1).f4) ((rd_T24 l0 x6_1).f5)) = some (r1, r2, r3) := by rw [if_neg (show ¬ (false = true) by decide)] at H; exact H
                          clear H
                          have H := H1
                          clear H1
                          have H' := Aside0.mk H
                          clear H
                          go_wp2
                          go_meet
                          case rel => exact ⟨_, (true), (by first | rfl | (simp; done) | (simp [*]; done)), H', ⟨by have := HK1.out; have := HJ4.out; have := HK3.out; first | omega | exact Nat.le_refl _⟩, ⟨by (with_reducible repeat (first | apply Kd.R_alloc | apply Kd.R_drewN | apply Kd.R_drew)); exact HO_5.out⟩, ⟨by (with_reducible repeat (first | refine blk_drewN ?_ _ | refine blk_drew ?_ | refine blk_alloc ?_ _)); exact BK115.out⟩, ⟨by repeat (first | (with_reducible first | exact HB.out | apply below_alloc | apply pw_below_drewN | apply below_drew1 | refine below_set ?_ GE115.out) | exact HB.out)⟩⟩
                      case rest =>
                        clear HC26
                        try clear c1
                        try clear p1
                        try clear q1
                        try clear hx1
                        try clear c2
                        try clear c2b0
                        try clear c2b1
                        try clear p2
                        try clear c3
                        try clear c3b0
                        try clear c4
                        try clear c4b0
                        try clear p6
                        try clear c8
                        try clear c8b0
                        try clear c10
                        try clear c10b0
                        try clear c11
                        try clear c11b0
                        try clear p11
                        try clear q11
                        try clear hx11
                        try clear p12
                        try clear q12
                        try clear hx12
                        try clear c15
                        try clear c18
                        try clear c18b0
                        try clear c19
                        try clear c19b0
                        try clear c20
                        try clear c20b0
                        try clear c21
                        try clear c21b0
                        try clear c23
                        try clear c23b0
                        try clear c27
                        try clear c28
                        try clear c28b0
                        try clear hcz13_0
                        try clear hcz13_1
                        try clear hcz13_2
                        try clear hcz13_3
                        try clear hcz13_4
                        try clear hcz13_5
                        try clear hcz15_0
                        try clear hcz15_1
                        try clear hcz15_2
                        try clear hcz15_3
                        try clear hcz15_4
                        try clear hcz15_5
                        try clear hcz29_0
                        try clear hcz29_1
                        try clear hcz29_2
                        try clear hcz29_3
                        try clear hcz29_4
                        try clear hcz29_5
                        try clear hcz30_0
                        try clear hcz30_1
                        try clear hcz30_2
                        try clear hcz30_3
                        try clear hcz30_4
                        try clear hcz30_5
                        try clear hcz7_0
                        try clear hcz7_1
                        try clear hcz7_2
                        try clear hcz7_3
                        try clear hcz7_4
                        try clear hcz7_5
                        try clear hfz13_0
                        try clear hfz13_1
                        try clear hfz13_2
                        try clear hfz13_3
                        try clear hfz13_4
                        try clear hfz13_5
                        try clear hfz15_0
                        try clear hfz15_1
                        try clear hfz15_2
                        try clear hfz15_3
                        try clear hfz15_4
                        try clear hfz15_5
                        try clear hfz29_0
                        try clear hfz29_1
                        try clear hfz29_2
                        try clear hfz29_3
                        try clear hfz29_4
                        try clear hfz29_5
                        try clear hfz30_0
                        try clear hfz30_1
                        try clear hfz30_2
                        try clear hfz30_3
                        try clear hfz30_4
                        try clear hfz30_5
                        try clear hfz7_0
                        try clear hfz7_1
                        try clear hfz7_2
                        try clear hfz7_3
                        try clear hfz7_4
                        try clear hfz7_5
                        try clear hx114_0
                        try clear hx114_1
                        try clear hx114_2
                        try clear hx114_3
                        try clear hx114_4
                        try clear hx114_5
                        try clear hx116_0
                        try clear hx116_1
                        try clear hx116_2
                        try clear hx116_3
                        try clear hx116_4
                        try clear hx116_5
                        try clear hx121_0
                        try clear hx122_0
                        try clear p1
                        try clear p11
                        try clear p114
                        try clear p116
                        try clear p121
                        try clear p122
                        try clear p2
                        try clear p6
                        try clear q1
                        try clear q11
                        try clear q114
                        try clear q116
                        try clear q121
                        try clear q122
                        obtain ⟨kq, x78_25, rfl, HA, HJ25, HO_5, BK115, HB⟩ := hcut
                        cases kq with
                        | zero => exact absurd HA.out (by simp [larderref17_Restock.j3])
                        | succ kj25 =>
                          have H := HA.out
                          clear HA
                          simp only [larderref17_Restock.j3] at H
                          by_cases c31 : x78_25 = true
                          · subst c31
                            have H1 : (some (([] : List (S33)), 171, x6_1)) = some (r1, r2, r3) := by rw [if_pos rfl] at H; exact H
                            clear H
                            have H := H1
                            clear H1
                            simp only [Option.some.injEq, Prod.mk.injEq] at H
                            obtain ⟨rfl, rfl, rfl⟩ := H
                            go_wp2
                            go_ret3
                            exact ⟨_, by first | rfl | (simp [errW_none, errW_some] <;> rfl) | (simp [*, errW_none, errW_some] <;> rfl), by first | exact Kd.R_nil _ _ _ _ _ | exact Kd.N_nil _ _ _ _ _ | exact Kd.V_nil _ _ _ _ _ | exact Kd.Q_nil _ _ _ _ _ | exact Kd.S_nil _ _ _ _ _, by repeat (first | (with_reducible first | exact HB.out | apply below_alloc | apply pw_below_drewN | apply below_drew1 | refine below_set ?_ GE115.out) | exact HB.out)⟩
                          · replace c31 := Bool.eq_false_iff.mpr c31
                            subst c31
                            have H1 : (if (wrap64 (((rd_T24 l0 x6_1).f1) + ((rd_T24 l0 x6_1).f2))) ≤ ((rd_T24 l0 x6_1).f3) then (if (wrap64 (((rd_T24 l0 x6_1).f1) + ((rd_T24 l0 x6_1).f2))) < ((rd_T24 l0 x6_1).f4) then (if ((rd_T24 l0 x6_1).f5) = 0 then (none) else (if x5_1.length < 5864062014805 then (larderref17_Restock.l0 kj25 l0 (x5_1 ++ [(⟨((rd_T24 l0 x6_1).f0), wrap64 ((wrap64 (Int.tdiv (wrap64 ((wrap64 ((wrap64 (((rd_T24 l0 x6_1).f4) - (wrap64 (((rd_T24 l0 x6_1).f1) + ((rd_T24 l0 x6_1).f2))))) + ((rd_T24 l0 x6_1).f5))) - 1)) ((rd_T24 l0 x6_1).f5))) * ((rd_T24 l0 x6_1).f5))⟩ : S33)]) (wrap64 (x6_1 + 1))) else (none))) else (larderref17_Restock.l0 kj25 l0 x5_1 (wrap64 (x6_1 + 1)))) else (larderref17_Restock.l0 kj25 l0 x5_1 (wrap64 (x6_1 + 1)))) = some (r1, r2, r3) := by rw [if_neg (show ¬ (false = true) by decide)] at H; exact H
                            clear H
                            have H := H1
                            clear H1
                            by_cases c32 : (wrap64 (((rd_T24 l0 x6_1).f1) + ((rd_T24 l0 x6_1).f2))) ≤ ((rd_T24 l0 x6_1).f3)
                            · rw [if_pos c32] at H
                              have c32b0 : decide ((wrap64 (((rd_T24 l0 x6_1).f1) + ((rd_T24 l0 x6_1).f2))) ≤ ((rd_T24 l0 x6_1).f3)) = true := decide_eq_true c32
                              clear c32
                              by_cases c33 : (wrap64 (((rd_T24 l0 x6_1).f1) + ((rd_T24 l0 x6_1).f2))) < ((rd_T24 l0 x6_1).f4)
                              · rw [if_pos c33] at H
                                have c33b0 : decide ((wrap64 (((rd_T24 l0 x6_1).f1) + ((rd_T24 l0 x6_1).f2))) < ((rd_T24 l0 x6_1).f4)) = true := decide_eq_true c33
                                clear c33
                                by_cases c34 : ((rd_T24 l0 x6_1).f5) = 0
                                · rw [if_pos c34] at H
                                  exact absurd H (by simp)
                                · rw [if_neg c34] at H
                                  have c34b0 : (((rd_T24 l0 x6_1).f5) == 0) = false := beq_eq_false_iff_ne.mpr c34
                                  have c34b1 : (((rd_T24 l0 x6_1).f5) != 0) = true := bne_iff_ne.mpr c34
                                  by_cases c35 : x5_1.length < 5864062014805
                                  · rw [if_pos c35] at H
                                    have LMc35 := Aside0.mk c35
                                    clear c35
                                    obtain ⟨y123, hy123⟩ : ∃ y_ : List (S33), y_ = (x5_1 ++ [(⟨((rd_T24 l0 x6_1).f0), wrap64 ((wrap64 (Int.tdiv (wrap64 ((wrap64 ((wrap64 (((rd_T24 l0 x6_1).f4) - (wrap64 (((rd_T24 l0 x6_1).f1) + ((rd_T24 l0 x6_1).f2))))) + ((rd_T24 l0 x6_1).f5))) - 1)) ((rd_T24 l0 x6_1).f5))) * ((rd_T24 l0 x6_1).f5))⟩ : S33)]) := ⟨_, rfl⟩
                                    replace H : (larderref17_Restock.l0 kj25 l0 y123 (wrap64 (x6_1 + 1))) = some (r1, r2, r3) := by first | (rw [hy123]; with_reducible exact H) | (have H2_ := (Option.bind_some _ _).symm.trans H; rw [hy123]; with_reducible exact H2_) | (have H2_ := (Option.bind_some _ _).symm.trans H; with_reducible exact H2_) | with_reducible exact H | (rw [hy123]; exact H) | exact H
                                    have Ny123 := Aside0.mk hy123
                                    clear hy123
                                    have H' := Aside0.mk H
                                    clear H
                                    have hcz36_0 : wc.cell? ⟨gb115, 0, none⟩ = some (.string ((rd_T24 l0 x6_1).f0)) := (blk_cell BK115.out 0).trans rfl
                                    have hcz36_1 : wc.cell? ⟨gb115, 1, none⟩ = some (.int .i64 ((rd_T24 l0 x6_1).f1)) := (blk_cell BK115.out 1).trans rfl
                                    have hcz36_2 : wc.cell? ⟨gb115, 2, none⟩ = some (.int .i64 ((rd_T24 l0 x6_1).f2)) := (blk_cell BK115.out 2).trans rfl
                                    have hcz36_3 : wc.cell? ⟨gb115, 3, none⟩ = some (.int .i64 ((rd_T24 l0 x6_1).f3)) := (blk_cell BK115.out 3).trans rfl
                                    have hcz36_4 : wc.cell? ⟨gb115, 4, none⟩ = some (.int .i64 ((rd_T24 l0 x6_1).f4)) := (blk_cell BK115.out 4).trans rfl
                                    have hcz36_5 : wc.cell? ⟨gb115, 5, none⟩ = some (.int .i64 ((rd_T24 l0 x6_1).f5)) := (blk_cell BK115.out 5).trans rfl
                                    have hfz36_0 := blk_frozen BK115.out 0
                                    have hfz36_1 := blk_frozen BK115.out 1
                                    have hfz36_2 := blk_frozen BK115.out 2
                                    have hfz36_3 := blk_frozen BK115.out 3
                                    have hfz36_4 := blk_frozen BK115.out 4
                                    have hfz36_5 := blk_frozen BK115.out 5
                                    go_wp2_with (first | ((with_reducible refine gate_builtin (b := .append) (xs := #[.tmp 106, .tmp 114]) rfl ?_); at_builtin; refine Kd.R_append k33 (w0 := w) w.heap.size rfl (.tmp 106) (.tmp 114) 25 33 (.agg #[(.string ⟨#[]⟩), (.int .i64 0)]) 24 rfl Try.underlying25 info33 rfl (by decide) (by omega) u5 x5_1 (⟨((rd_T24 l0 x6_1).f0), wrap64 ((wrap64 (Int.tdiv (wrap64 ((wrap64 ((wrap64 (((rd_T24 l0 x6_1).f4) - (wrap64 (((rd_T24 l0 x6_1).f1) + ((rd_T24 l0 x6_1).f2))))) + ((rd_T24 l0 x6_1).f5))) - 1)) ((rd_T24 l0 x6_1).f5))) * ((rd_T24 l0 x6_1).f5))⟩ : S33) [.string ((rd_T24 l0 x6_1).f0), .int .i64 (wrap64 ((wrap64 (Int.tdiv (wrap64 ((wrap64 ((wrap64 (((rd_T24 l0 x6_1).f4) - (wrap64 (((rd_T24 l0 x6_1).f1) + ((rd_T24 l0 x6_1).f2))))) + ((rd_T24 l0 x6_1).f5))) - 1)) ((rd_T24 l0 x6_1).f5))) * ((rd_T24 l0 x6_1).f5)))] (fun _ => True) (fun _ => False) rfl rfl ?aP (fun _ hk => hk.elim) ?aF ?aO ?aB ?aS ?aL ?_; (case aP => exact k33_mkM _ _ _ (⟨((rd_T24 l0 x6_1).f0), wrap64 ((wrap64 (Int.tdiv (wrap64 ((wrap64 ((wrap64 (((rd_T24 l0 x6_1).f4) - (wrap64 (((rd_T24 l0 x6_1).f1) + ((rd_T24 l0 x6_1).f2))))) + ((rd_T24 l0 x6_1).f5))) - 1)) ((rd_T24 l0 x6_1).f5))) * ((rd_T24 l0 x6_1).f5))⟩ : S33)); (case aB => exact (by repeat (first | (with_reducible first | exact HB.out | apply below_alloc | apply pw_below_drewN | apply below_drew1 | refine below_set ?_ GE115.out) | exact HB.out))); (case aF => exact (fun _ _ => trivial)); (case aO => exact (by (with_reducible repeat (first | apply Kd.R_alloc | apply Kd.R_drewN | apply Kd.R_drew)); exact HO_5.out)); (case aS => exact (below_size (by repeat (first | (with_reducible first | exact HB.out | apply below_alloc | apply pw_below_drewN | apply below_drew1 | refine below_set ?_ GE115.out) | exact HB.out)))); (case aL => have := LMc35.out; omega); intro v124 w37 ho hb hg hat; rw [← Ny123.out] at ho; have n0_ := Aside0.mk (blk_grown (g := gb115) (o := .cells #[.string ((rd_T24 l0 x6_1).f0), .int .i64 ((rd_T24 l0 x6_1).f1), .int .i64 ((rd_T24 l0 x6_1).f2), .int .i64 ((rd_T24 l0 x6_1).f3), .int .i64 ((rd_T24 l0 x6_1).f4), .int .i64 ((rd_T24 l0 x6_1).f5)] 24 (0, 0)) (by (with_reducible repeat (first | refine blk_drewN ?_ _ | refine blk_drew ?_ | refine blk_alloc ?_ _)); exact BK115.out) hg (Kd.R_ne HO_5.out BK115.out (by decide))); have n1_ := Aside0.mk (hb); have n2_ := Aside0.mk (ho); clear BK115; clear HB; clear HO_5; have BK115 := n0_; have HB := n1_; have HO125 := n2_; clear n0_ n1_ n2_; clear ho hb hg hat))
                                    go_roundg kj25
                                    case measure => have := HK1.out; have := HJ4.out; have := HK3.out; have := HJ25.out; omega
                                    case rel => exact ⟨(y123), (wrap64 (x6_1 + 1)), (by first | rfl | (simp; done) | (simp [*]; done)), H', ⟨by have := HK1.out; have := HJ4.out; have := HK3.out; have := HJ25.out; omega⟩, ⟨by (with_reducible repeat (first | apply Kd.R_alloc | apply Kd.R_drewN | apply Kd.R_drew)); exact HO125.out⟩, ⟨by repeat (first | (with_reducible first | exact HB.out | apply below_alloc | apply pw_below_drewN | apply below_drew1 | refine below_set ?_ GE115.out) | exact HB.out)⟩⟩
                                  · rw [if_neg c35] at H
                                    exact absurd H (by simp)
                              · rw [if_neg c33] at H
                                have c33b0 : decide ((wrap64 (((rd_T24 l0 x6_1).f1) + ((rd_T24 l0 x6_1).f2))) < ((rd_T24 l0 x6_1).f4)) = false := decide_eq_false c33
                                clear c33
                                have H' := Aside0.mk H
                                clear H
                                have hcz38_0 : wc.cell? ⟨gb115, 0, none⟩ = some (.string ((rd_T24 l0 x6_1).f0)) := (blk_cell BK115.out 0).trans rfl
                                have hcz38_1 : wc.cell? ⟨gb115, 1, none⟩ = some (.int .i64 ((rd_T24 l0 x6_1).f1)) := (blk_cell BK115.out 1).trans rfl
                                have hcz38_2 : wc.cell? ⟨gb115, 2, none⟩ = some (.int .i64 ((rd_T24 l0 x6_1).f2)) := (blk_cell BK115.out 2).trans rfl
                                have hcz38_3 : wc.cell? ⟨gb115, 3, none⟩ = some (.int .i64 ((rd_T24 l0 x6_1).f3)) := (blk_cell BK115.out 3).trans rfl
                                have hcz38_4 : wc.cell? ⟨gb115, 4, none⟩ = some (.int .i64 ((rd_T24 l0 x6_1).f4)) := (blk_cell BK115.out 4).trans rfl
                                have hcz38_5 : wc.cell? ⟨gb115, 5, none⟩ = some (.int .i64 ((rd_T24 l0 x6_1).f5)) := (blk_cell BK115.out 5).trans rfl
                                have hfz38_0 := blk_frozen BK115.out 0
                                have hfz38_1 := blk_frozen BK115.out 1
                                have hfz38_2 := blk_frozen BK115.out 2
                                have hfz38_3 := blk_frozen BK115.out 3
                                have hfz38_4 := blk_frozen BK115.out 4
                                have hfz38_5 := blk_frozen BK115.out 5
                                go_wp2
                                go_roundg kj25
                                case measure => have := HK1.out; have := HJ4.out; have := HK3.out; have := HJ25.out; omega
                                case rel => exact ⟨(x5_1), (wrap64 (x6_1 + 1)), (by first | rfl | (simp; done) | (simp [*]; done)), H', ⟨by have := HK1.out; have := HJ4.out; have := HK3.out; have := HJ25.out; omega⟩, ⟨by (with_reducible repeat (first | apply Kd.R_alloc | apply Kd.R_drewN | apply Kd.R_drew)); exact HO_5.out⟩, ⟨by repeat (first | (with_reducible first | exact HB.out | apply below_alloc | apply pw_below_drewN | apply below_drew1 | refine below_set ?_ GE115.out) | exact HB.out)⟩⟩
                            · rw [if_neg c32] at H
                              have c32b0 : decide ((wrap64 (((rd_T24 l0 x6_1).f1) + ((rd_T24 l0 x6_1).f2))) ≤ ((rd_T24 l0 x6_1).f3)) = false := decide_eq_false c32
                              clear c32
                              have H' := Aside0.mk H
                              clear H
                              have hcz39_0 : wc.cell? ⟨gb115, 0, none⟩ = some (.string ((rd_T24 l0 x6_1).f0)) := (blk_cell BK115.out 0).trans rfl
                              have hcz39_1 : wc.cell? ⟨gb115, 1, none⟩ = some (.int .i64 ((rd_T24 l0 x6_1).f1)) := (blk_cell BK115.out 1).trans rfl
                              have hcz39_2 : wc.cell? ⟨gb115, 2, none⟩ = some (.int .i64 ((rd_T24 l0 x6_1).f2)) := (blk_cell BK115.out 2).trans rfl
                              have hcz39_3 : wc.cell? ⟨gb115, 3, none⟩ = some (.int .i64 ((rd_T24 l0 x6_1).f3)) := (blk_cell BK115.out 3).trans rfl
                              have hcz39_4 : wc.cell? ⟨gb115, 4, none⟩ = some (.int .i64 ((rd_T24 l0 x6_1).f4)) := (blk_cell BK115.out 4).trans rfl
                              have hcz39_5 : wc.cell? ⟨gb115, 5, none⟩ = some (.int .i64 ((rd_T24 l0 x6_1).f5)) := (blk_cell BK115.out 5).trans rfl
                              have hfz39_0 := blk_frozen BK115.out 0
                              have hfz39_1 := blk_frozen BK115.out 1
                              have hfz39_2 := blk_frozen BK115.out 2
                              have hfz39_3 := blk_frozen BK115.out 3
                              have hfz39_4 := blk_frozen BK115.out 4
                              have hfz39_5 := blk_frozen BK115.out 5
                              go_wp2
                              go_roundg kj25
                              case measure => have := HK1.out; have := HJ4.out; have := HK3.out; have := HJ25.out; omega
                              case rel => exact ⟨(x5_1), (wrap64 (x6_1 + 1)), (by first | rfl | (simp; done) | (simp [*]; done)), H', ⟨by have := HK1.out; have := HJ4.out; have := HK3.out; have := HJ25.out; omega⟩, ⟨by (with_reducible repeat (first | apply Kd.R_alloc | apply Kd.R_drewN | apply Kd.R_drew)); exact HO_5.out⟩, ⟨by repeat (first | (with_reducible first | exact HB.out | apply below_alloc | apply pw_below_drewN | apply below_drew1 | refine below_set ?_ GE115.out) | exact HB.out)⟩⟩
          · rw [if_neg c4] at H
            exact absurd H (by simp)
        · rw [if_neg c3] at H
          have c3b0 : decide (x6_1 < (l0.length : Int)) = false := decide_eq_false c3
          clear c3
          simp only [Option.some.injEq, Prod.mk.injEq] at H
          obtain ⟨rfl, rfl, rfl⟩ := H
          go_wp2
          go_ret3
          exact ⟨_, by first | rfl | (simp [errW_none, errW_some] <;> rfl) | (simp [*, errW_none, errW_some] <;> rfl), by (with_reducible repeat (first | apply Kd.R_alloc | apply Kd.R_drewN | apply Kd.R_drew)); exact HO_5.out, by repeat (first | (with_reducible first | exact HB.out | apply below_alloc | apply pw_below_drewN | apply below_drew1) | exact HB.out)⟩

end Go.Proofs.Ytoopoecopahcbaa.QPlanRestocks
