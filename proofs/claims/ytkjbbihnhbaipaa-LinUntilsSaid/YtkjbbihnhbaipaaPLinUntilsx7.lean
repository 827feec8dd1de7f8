-- PRINTED BY print.sh 35421559b90ae4d0a3588c463048766b98c2df88dd9212a6774a882060cdf62d: not written by this session
import Derived.Test.YtkjbbihnhbaipaaPLinUntilsx0
import Derived.Test.YtkjbbihnhbaipaaPLinUntilsx6
namespace Go.Proofs.Ytkjbbihnhbaipaa.PLinUntils
open Go.RowKit Go.Proofs.YtkjbbihnhbaipaaW.PrintWords Go.Proofs.YtkjbbihnhbaipaaW.PrintLast Go.Proofs.YtkjbbihnhbaipaaW.PrintMore
attribute [local go_sem] max2_int min2_int max_two min_two max_three min_three max_four min_four   -- for this text's walks alone
set_option linter.unusedVariables false
set_option linter.unusedSimpArgs false

/-! ### lin_same: function 18 -/
def lin_same.f (k : Nat) (a0_0 : ByteArray) (a0_1 : Int) (a0_2 : Int) (l0_3 : List (S42)) (a0_4 : Int) (a1_0 : ByteArray) (a1_1 : Int) (a1_2 : Int) (l1_3 : List (S42)) (a1_4 : Int) : Option (Bool) := if a0_0.toList = a1_0.toList then (if a0_1 = a1_1 then (if a0_2 = a1_2 then (if a0_4 = a1_4 then ((api_Level_28.f k l0_3 l1_3).bind fun t172 => (some t172)) else (some false)) else (some false)) else (some false)) else (some false)
theorem lin_same.mono : ∀ a0 a1 a2 a3 a4 a5 a6 a7 a8 a9 k, LeO (lin_same.f k a0 a1 a2 a3 a4 a5 a6 a7 a8 a9) (lin_same.f (k + 1) a0 a1 a2 a3 a4 a5 a6 a7 a8 a9) := by
  intro a0 a1 a2 a3 a4 a5 a6 a7 a8 a9 k
  unfold lin_same.f
  repeat' first
      | (with_reducible exact api_Level_28.mono _ _ _)
      | (with_reducible exact LeO.refl _)
      | (with_reducible exact LeO.none _)
      | (with_reducible refine LeO.ite ?_ ?_)
      | (with_reducible refine LeO.bind ?_ (fun _ => ?_))
      | exact api_Level_28.mono _ _ _
      | exact LeO.none _
      | refine LeO.ite ?_ ?_
      | refine LeO.bind ?_ (fun _ => ?_)
set_option maxHeartbeats 8000000 in
set_option maxRecDepth 100000 in
theorem lin_same.calls (k : Nat) (a0_0 : ByteArray) (a0_1 : Int) (a0_2 : Int) (A0_3 : Option Addr) (c0_3 : Nat) (l0_3 : List (S42)) (a0_4 : Int) (a1_0 : ByteArray) (a1_1 : Int) (a1_2 : Int) (A1_3 : Option Addr) (c1_3 : Nat) (l1_3 : List (S42)) (a1_4 : Int) (r : Bool) (w : World) (hr0_3 : Kd.C k42 w A0_3 l0_3.length l0_3) (hc0_3 : l0_3.length ≤ c0_3) (hr1_3 : Kd.C k42 w A1_3 l1_3.length l1_3) (hc1_3 : l1_3.length ≤ c1_3) (h : lin_same.f k a0_0 a0_1 a0_2 l0_3 a0_4 a1_0 a1_1 a1_2 l1_3 a1_4 = some r) :
    Calls Try.prog 18 #[.agg #[.string a0_0, .int .i64 a0_1, .int .i64 a0_2, .slice A0_3 l0_3.length c0_3, .int .i64 a0_4], .agg #[.string a1_0, .int .i64 a1_1, .int .i64 a1_2, .slice A1_3 l1_3.length c1_3, .int .i64 a1_4]] w fun e w' => e = .returned (.bool r) ∧ Below w.heap.size w w' := by
  have hu33 := Try.underlying33
  have HR0_3 := Aside0.mk hr0_3
  have HC0_3 := Aside0.mk hc0_3
  clear hr0_3 hc0_3
  have HR1_3 := Aside0.mk hr1_3
  have HC1_3 := Aside0.mk hc1_3
  clear hr1_3 hc1_3
  have HB := Aside0.mk (Below.refl w.heap.size w)
  have H : (if a0_0.toList = a1_0.toList then (if a0_1 = a1_1 then (if a0_2 = a1_2 then (if a0_4 = a1_4 then ((api_Level_28.f k l0_3 l1_3).bind fun t172 => (some t172)) else (some false)) else (some false)) else (some false)) else (some false)) = some r := h
  clear h
  by_cases c3 : a0_0.toList = a1_0.toList
  · rw [if_pos c3] at H
    have c3b0 : (a0_0.toList == a1_0.toList) = true := beq_iff_eq.mpr c3
    have c3b1 : (a0_0.toList != a1_0.toList) = false := bne_eq_false_iff_eq.mpr c3
    clear c3
    by_cases c4 : a0_1 = a1_1
    · rw [if_pos c4] at H
      have c4b0 : (a0_1 == a1_1) = true := beq_iff_eq.mpr c4
      have c4b1 : (a0_1 != a1_1) = false := bne_eq_false_iff_eq.mpr c4
      clear c4
      by_cases c5 : a0_2 = a1_2
      · rw [if_pos c5] at H
        have c5b0 : (a0_2 == a1_2) = true := beq_iff_eq.mpr c5
        have c5b1 : (a0_2 != a1_2) = false := bne_eq_false_iff_eq.mpr c5
        clear c5
        by_cases c6 : a0_4 = a1_4
        · rw [if_pos c6] at H
          have c6b0 : (a0_4 == a1_4) = true := beq_iff_eq.mpr c6
          have c6b1 : (a0_4 != a1_4) = false := bne_eq_false_iff_eq.mpr c6
          clear c6
          replace H := Option.bind_eq_some_iff.mp H
          obtain ⟨t172, A70, H⟩ := H
          replace H : (some t172) = some r := H
          have A7 := Aside0.mk A70
          clear A70
          obtain rfl := Option.some.inj H
          go_enter Try.func18, Try.ntmps18
          go_wp2_with (first | ((with_reducible refine gate_dst (N := 2) rfl ?_); refine box_event ?hg (N := 2) ?hd (cs := #[.string a0_0, .int .i64 a0_1, .int .i64 a0_2, .slice A0_3 l0_3.length c0_3, .int .i64 a0_4]) (t := 33) ?hr ?_; (case hd => rfl); (case hg => rfl); (case hr => first | (go_simp; done) | (go_simp; rfl)); intro gb170 hg w8 hbox hb; have n0_ := Aside0.mk (below_step (by repeat (first | (with_reducible first | exact HB.out | apply below_alloc | apply pw_below_drewN | apply below_drew1) | exact HB.out)) hb); have n1_ := Aside0.mk (hbox); have n2_ := Aside0.mk ((by rw [hg]; exact (below_size (by repeat (first | (with_reducible first | exact HB.out | apply below_alloc | apply pw_below_drewN | apply below_drew1) | exact HB.out))) : w.heap.size ≤ gb170)); have n3_ := Aside0.mk ((by rw [hg]; exact (below_size (by repeat (first | (with_reducible first | exact HB.out | apply below_alloc | apply pw_below_drewN | apply below_drew1) | exact HB.out))) : w.heap.size ≤ gb170)); clear HB; have HB := n0_; have BK170 := n1_; have GW170 := n2_; have GE170 := n3_; clear n0_ n1_ n2_ n3_; clear hb hbox hg) | ((with_reducible refine gate_dst (N := 3) rfl ?_); refine box_event ?hg (N := 3) ?hd (cs := #[.string a1_0, .int .i64 a1_1, .int .i64 a1_2, .slice A1_3 l1_3.length c1_3, .int .i64 a1_4]) (t := 33) ?hr ?_; (case hd => rfl); (case hg => rfl); (case hr => first | (go_simp; done) | (go_simp; rfl)); intro gb171 hg w9 hbox hb; have n0_ := Aside0.mk (blk_below (g := gb170) (o := .cells #[.string a0_0, .int .i64 a0_1, .int .i64 a0_2, .slice A0_3 l0_3.length c0_3, .int .i64 a0_4] 33 (0, 0)) (by (with_reducible repeat (first | refine blk_drewN ?_ _ | refine blk_drew ?_ | refine blk_alloc ?_ _)); exact BK170.out) hb); have n1_ := Aside0.mk (below_step (by repeat (first | (with_reducible first | exact HB.out | apply below_alloc | apply pw_below_drewN | apply below_drew1 | refine below_set ?_ GE170.out) | exact HB.out)) hb); have n2_ := Aside0.mk (hbox); have n3_ := Aside0.mk ((by rw [hg]; exact (below_size (by repeat (first | (with_reducible first | exact HB.out | apply below_alloc | apply pw_below_drewN | apply below_drew1 | refine below_set ?_ GE170.out) | exact HB.out))) : w.heap.size ≤ gb171)); have n4_ := Aside0.mk ((by rw [hg]; exact (below_size (by repeat (first | (with_reducible first | exact HB.out | apply below_alloc | apply pw_below_drewN | apply below_drew1 | refine below_set ?_ GE170.out) | exact HB.out))) : w.heap.size ≤ gb171)); have n5_ := Aside0.mk ((by rw [hg]; exact Nat.ne_of_lt (blk_lt (g := gb170) (o := .cells #[.string a0_0, .int .i64 a0_1, .int .i64 a0_2, .slice A0_3 l0_3.length c0_3, .int .i64 a0_4] 33 (0, 0)) (by (with_reducible repeat (first | refine blk_drewN ?_ _ | refine blk_drew ?_ | refine blk_alloc ?_ _)); exact BK170.out)) : gb170 ≠ gb171)); have n6_ := Aside0.mk ((by rw [hg]; exact Nat.ne_of_gt (blk_lt (g := gb170) (o := .cells #[.string a0_0, .int .i64 a0_1, .int .i64 a0_2, .slice A0_3 l0_3.length c0_3, .int .i64 a0_4] 33 (0, 0)) (by (with_reducible repeat (first | refine blk_drewN ?_ _ | refine blk_drew ?_ | refine blk_alloc ?_ _)); exact BK170.out)) : gb171 ≠ gb170)); clear BK170; clear HB; have BK170 := n0_; have HB := n1_; have BK171 := n2_; have GW171 := n3_; have GE171 := n4_; have NB170_171 := n5_; have NB171_170 := n6_; clear n0_ n1_ n2_ n3_ n4_ n5_ n6_; clear hb hbox hg; have hnb10 := NB170_171.out; have hnc10 := NB171_170.out; have hcz11_0 : w9.cell? ⟨gb170, 0, none⟩ = some (.string a0_0) := (blk_cell BK170.out 0).trans rfl; have hcz11_1 : w9.cell? ⟨gb170, 1, none⟩ = some (.int .i64 a0_1) := (blk_cell BK170.out 1).trans rfl; have hcz11_2 : w9.cell? ⟨gb170, 2, none⟩ = some (.int .i64 a0_2) := (blk_cell BK170.out 2).trans rfl; have hcz11_3 : w9.cell? ⟨gb170, 3, none⟩ = some (.slice A0_3 l0_3.length c0_3) := (blk_cell BK170.out 3).trans rfl; have hcz11_4 : w9.cell? ⟨gb170, 4, none⟩ = some (.int .i64 a0_4) := (blk_cell BK170.out 4).trans rfl; have hfz11_0 := blk_frozen BK170.out 0; have hfz11_1 := blk_frozen BK170.out 1; have hfz11_2 := blk_frozen BK170.out 2; have hfz11_3 := blk_frozen BK170.out 3; have hfz11_4 := blk_frozen BK170.out 4; have hcz12_0 : w9.cell? ⟨gb171, 0, none⟩ = some (.string a1_0) := (blk_cell BK171.out 0).trans rfl; have hcz12_1 : w9.cell? ⟨gb171, 1, none⟩ = some (.int .i64 a1_1) := (blk_cell BK171.out 1).trans rfl; have hcz12_2 : w9.cell? ⟨gb171, 2, none⟩ = some (.int .i64 a1_2) := (blk_cell BK171.out 2).trans rfl; have hcz12_3 : w9.cell? ⟨gb171, 3, none⟩ = some (.slice A1_3 l1_3.length c1_3) := (blk_cell BK171.out 3).trans rfl; have hcz12_4 : w9.cell? ⟨gb171, 4, none⟩ = some (.int .i64 a1_4) := (blk_cell BK171.out 4).trans rfl; have hfz12_0 := blk_frozen BK171.out 0; have hfz12_1 := blk_frozen BK171.out 1; have hfz12_2 := blk_frozen BK171.out 2; have hfz12_3 := blk_frozen BK171.out 3; have hfz12_4 := blk_frozen BK171.out 4) | (go_at_call 28; (with_reducible refine (api_Level_28.calls k _ _ l0_3 _ _ l1_3 t172 _ ?side1 ?side2 ?side3 ?side4 A7.out).mono ?_); (case side1 => repeat (first | exact (Kd.C_below HR0_3.out HB.out) | (with_reducible refine Kd.C_alloc ?_ _) | (with_reducible refine Kd.C_drewN ?_ _) | (with_reducible refine Kd.C_drew ?_))); (case side2 => exact HC0_3.out); (case side3 => repeat (first | exact (Kd.C_below HR1_3.out HB.out) | (with_reducible refine Kd.C_alloc ?_ _) | (with_reducible refine Kd.C_drewN ?_ _) | (with_reducible refine Kd.C_drew ?_))); (case side4 => exact HC1_3.out); rintro e w' ⟨rfl, ⟨nd, rfl⟩⟩))
          go_ret
          exact ⟨by first | rfl | (simp [errW_none, errW_some] <;> rfl) | (simp [*, errW_none, errW_some] <;> rfl), by repeat (first | (with_reducible first | exact HB.out | apply below_alloc | apply pw_below_drewN | apply below_drew1 | refine below_set ?_ GE170.out | refine below_set ?_ GE171.out) | exact HB.out)⟩
        · rw [if_neg c6] at H
          have c6b0 : (a0_4 == a1_4) = false := beq_eq_false_iff_ne.mpr c6
          have c6b1 : (a0_4 != a1_4) = true := bne_iff_ne.mpr c6
          obtain rfl := Option.some.inj H
          go_enter Try.func18, Try.ntmps18
          go_wp2_with (first | ((with_reducible refine gate_dst (N := 2) rfl ?_); refine box_event ?hg (N := 2) ?hd (cs := #[.string a0_0, .int .i64 a0_1, .int .i64 a0_2, .slice A0_3 l0_3.length c0_3, .int .i64 a0_4]) (t := 33) ?hr ?_; (case hd => rfl); (case hg => rfl); (case hr => first | (go_simp; done) | (go_simp; rfl)); intro gb170 hg w13 hbox hb; have n0_ := Aside0.mk (below_step (by repeat (first | (with_reducible first | exact HB.out | apply below_alloc | apply pw_below_drewN | apply below_drew1) | exact HB.out)) hb); have n1_ := Aside0.mk (hbox); have n2_ := Aside0.mk ((by rw [hg]; exact (below_size (by repeat (first | (with_reducible first | exact HB.out | apply below_alloc | apply pw_below_drewN | apply below_drew1) | exact HB.out))) : w.heap.size ≤ gb170)); have n3_ := Aside0.mk ((by rw [hg]; exact (below_size (by repeat (first | (with_reducible first | exact HB.out | apply below_alloc | apply pw_below_drewN | apply below_drew1) | exact HB.out))) : w.heap.size ≤ gb170)); clear HB; have HB := n0_; have BK170 := n1_; have GW170 := n2_; have GE170 := n3_; clear n0_ n1_ n2_ n3_; clear hb hbox hg) | ((with_reducible refine gate_dst (N := 3) rfl ?_); refine box_event ?hg (N := 3) ?hd (cs := #[.string a1_0, .int .i64 a1_1, .int .i64 a1_2, .slice A1_3 l1_3.length c1_3, .int .i64 a1_4]) (t := 33) ?hr ?_; (case hd => rfl); (case hg => rfl); (case hr => first | (go_simp; done) | (go_simp; rfl)); intro gb171 hg w14 hbox hb; have n0_ := Aside0.mk (blk_below (g := gb170) (o := .cells #[.string a0_0, .int .i64 a0_1, .int .i64 a0_2, .slice A0_3 l0_3.length c0_3, .int .i64 a0_4] 33 (0, 0)) (by (with_reducible repeat (first | refine blk_drewN ?_ _ | refine blk_drew ?_ | refine blk_alloc ?_ _)); exact BK170.out) hb); have n1_ := Aside0.mk (below_step (by repeat (first | (with_reducible first | exact HB.out | apply below_alloc | apply pw_below_drewN | apply below_drew1 | refine below_set ?_ GE170.out) | exact HB.out)) hb); have n2_ := Aside0.mk (hbox); have n3_ := Aside0.mk ((by rw [hg]; exact (below_size (by repeat (first | (with_reducible first | exact HB.out | apply below_alloc | apply pw_below_drewN | apply below_drew1 | refine below_set ?_ GE170.out) | exact HB.out))) : w.heap.size ≤ gb171)); have n4_ := Aside0.mk ((by rw [hg]; exact (below_size (by repeat (first | (with_reducible first | exact HB.out | apply below_alloc | apply pw_below_drewN | apply below_drew1 | refine below_set ?_ GE170.out) | exact HB.out))) : w.heap.size ≤ gb171)); have n5_ := Aside0.mk ((by rw [hg]; exact Nat.ne_of_lt (blk_lt (g := gb170) (o := .cells #[.string a0_0, .int .i64 a0_1, .int .i64 a0_2, .slice A0_3 l0_3.length c0_3, .int .i64 a0_4] 33 (0, 0)) (by (with_reducible repeat (first | refine blk_drewN ?_ _ | refine blk_drew ?_ | refine blk_alloc ?_ _)); exact BK170.out)) : gb170 ≠ gb171)); have n6_ := Aside0.mk ((by rw [hg]; exact Nat.ne_of_gt (blk_lt (g := gb170) (o := .cells #[.string a0_0, .int .i64 a0_1, .int .i64 a0_2, .slice A0_3 l0_3.length c0_3, .int .i64 a0_4] 33 (0, 0)) (by (with_reducible repeat (first | refine blk_drewN ?_ _ | refine blk_drew ?_ | refine blk_alloc ?_ _)); exact BK170.out)) : gb171 ≠ gb170)); clear BK170; clear HB; have BK170 := n0_; have HB := n1_; have BK171 := n2_; have GW171 := n3_; have GE171 := n4_; have NB170_171 := n5_; have NB171_170 := n6_; clear n0_ n1_ n2_ n3_ n4_ n5_ n6_; clear hb hbox hg; have hnb15 := NB170_171.out; have hnc15 := NB171_170.out; have hcz16_0 : w14.cell? ⟨gb170, 0, none⟩ = some (.string a0_0) := (blk_cell BK170.out 0).trans rfl; have hcz16_1 : w14.cell? ⟨gb170, 1, none⟩ = some (.int .i64 a0_1) := (blk_cell BK170.out 1).trans rfl; have hcz16_2 : w14.cell? ⟨gb170, 2, none⟩ = some (.int .i64 a0_2) := (blk_cell BK170.out 2).trans rfl; have hcz16_3 : w14.cell? ⟨gb170, 3, none⟩ = some (.slice A0_3 l0_3.length c0_3) := (blk_cell BK170.out 3).trans rfl; have hcz16_4 : w14.cell? ⟨gb170, 4, none⟩ = some (.int .i64 a0_4) := (blk_cell BK170.out 4).trans rfl; have hfz16_0 := blk_frozen BK170.out 0; have hfz16_1 := blk_frozen BK170.out 1; have hfz16_2 := blk_frozen BK170.out 2; have hfz16_3 := blk_frozen BK170.out 3; have hfz16_4 := blk_frozen BK170.out 4; have hcz17_0 : w14.cell? ⟨gb171, 0, none⟩ = some (.string a1_0) := (blk_cell BK171.out 0).trans rfl; have hcz17_1 : w14.cell? ⟨gb171, 1, none⟩ = some (.int .i64 a1_1) := (blk_cell BK171.out 1).trans rfl; have hcz17_2 : w14.cell? ⟨gb171, 2, none⟩ = some (.int .i64 a1_2) := (blk_cell BK171.out 2).trans rfl; have hcz17_3 : w14.cell? ⟨gb171, 3, none⟩ = some (.slice A1_3 l1_3.length c1_3) := (blk_cell BK171.out 3).trans rfl; have hcz17_4 : w14.cell? ⟨gb171, 4, none⟩ = some (.int .i64 a1_4) := (blk_cell BK171.out 4).trans rfl; have hfz17_0 := blk_frozen BK171.out 0; have hfz17_1 := blk_frozen BK171.out 1; have hfz17_2 := blk_frozen BK171.out 2; have hfz17_3 := blk_frozen BK171.out 3; have hfz17_4 := blk_frozen BK171.out 4))
          go_ret
          exact ⟨by first | rfl | (simp [errW_none, errW_some] <;> rfl) | (simp [*, errW_none, errW_some] <;> rfl), by repeat (first | (with_reducible first | exact HB.out | apply below_alloc | apply pw_below_drewN | apply below_drew1 | refine below_set ?_ GE170.out | refine below_set ?_ GE171.out) | exact HB.out)⟩
      · rw [if_neg c5] at H
        have c5b0 : (a0_2 == a1_2) = false := beq_eq_false_iff_ne.mpr c5
        have c5b1 : (a0_2 != a1_2) = true := bne_iff_ne.mpr c5
        obtain rfl := Option.some.inj H
        go_enter Try.func18, Try.ntmps18
        go_wp2_with (first | ((with_reducible refine gate_dst (N := 2) rfl ?_); refine box_event ?hg (N := 2) ?hd (cs := #[.string a0_0, .int .i64 a0_1, .int .i64 a0_2, .slice A0_3 l0_3.length c0_3, .int .i64 a0_4]) (t := 33) ?hr ?_; (case hd => rfl); (case hg => rfl); (case hr => first | (go_simp; done) | (go_simp; rfl)); intro gb170 hg w18 hbox hb; have n0_ := Aside0.mk (below_step (by repeat (first | (with_reducible first | exact HB.out | apply below_alloc | apply pw_below_drewN | apply below_drew1) | exact HB.out)) hb); have n1_ := Aside0.mk (hbox); have n2_ := Aside0.mk ((by rw [hg]; exact (below_size (by repeat (first | (with_reducible first | exact HB.out | apply below_alloc | apply pw_below_drewN | apply below_drew1) | exact HB.out))) : w.heap.size ≤ gb170)); have n3_ := Aside0.mk ((by rw [hg]; exact (below_size (by repeat (first | (with_reducible first | exact HB.out | apply below_alloc | apply pw_below_drewN | apply below_drew1) | exact HB.out))) : w.heap.size ≤ gb170)); clear HB; have HB := n0_; have BK170 := n1_; have GW170 := n2_; have GE170 := n3_; clear n0_ n1_ n2_ n3_; clear hb hbox hg) | ((with_reducible refine gate_dst (N := 3) rfl ?_); refine box_event ?hg (N := 3) ?hd (cs := #[.string a1_0, .int .i64 a1_1, .int .i64 a1_2, .slice A1_3 l1_3.length c1_3, .int .i64 a1_4]) (t := 33) ?hr ?_; (case hd => rfl); (case hg => rfl); (case hr => first | (go_simp; done) | (go_simp; rfl)); intro gb171 hg w19 hbox hb; have n0_ := Aside0.mk (blk_below (g := gb170) (o := .cells #[.string a0_0, .int .i64 a0_1, .int .i64 a0_2, .slice A0_3 l0_3.length c0_3, .int .i64 a0_4] 33 (0, 0)) (by (with_reducible repeat (first | refine blk_drewN ?_ _ | refine blk_drew ?_ | refine blk_alloc ?_ _)); exact BK170.out) hb); have n1_ := Aside0.mk (below_step (by repeat (first | (with_reducible first | exact HB.out | apply below_alloc | apply pw_below_drewN | apply below_drew1 | refine below_set ?_ GE170.out) | exact HB.out)) hb); have n2_ := Aside0.mk (hbox); have n3_ := Aside0.mk ((by rw [hg]; exact (below_size (by repeat (first | (with_reducible first | exact HB.out | apply below_alloc | apply pw_below_drewN | apply below_drew1 | refine below_set ?_ GE170.out) | exact HB.out))) : w.heap.size ≤ gb171)); have n4_ := Aside0.mk ((by rw [hg]; exact (below_size (by repeat (first | (with_reducible first | exact HB.out | apply below_alloc | apply pw_below_drewN | apply below_drew1 | refine below_set ?_ GE170.out) | exact HB.out))) : w.heap.size ≤ gb171)); have n5_ := Aside0.mk ((by rw [hg]; exact Nat.ne_of_lt (blk_lt (g := gb170) (o := .cells #[.string a0_0, .int .i64 a0_1, .int .i64 a0_2, .slice A0_3 l0_3.length c0_3, .int .i64 a0_4] 33 (0, 0)) (by (with_reducible repeat (first | refine blk_drewN ?_ _ | refine blk_drew ?_ | refine blk_alloc ?_ _)); exact BK170.out)) : gb170 ≠ gb171)); have n6_ := Aside0.mk ((by rw [hg]; exact Nat.ne_of_gt (blk_lt (g := gb170) (o := .cells #[.string a0_0, .int .i64 a0_1, .int .i64 a0_2, .slice A0_3 l0_3.length c0_3, .int .i64 a0_4] 33 (0, 0)) (by (with_reducible repeat (first | refine blk_drewN ?_ _ | refine blk_drew ?_ | refine blk_alloc ?_ _)); exact BK170.out)) : gb171 ≠ gb170)); clear BK170; clear HB; have BK170 := n0_; have HB := n1_; have BK171 := n2_; have GW171 := n3_; have GE171 := n4_; have NB170_171 := n5_; have NB171_170 := n6_; clear n0_ n1_ n2_ n3_ n4_ n5_ n6_; clear hb hbox hg; have hnb20 := NB170_171.out; have hnc20 := NB171_170.out; have hcz21_0 : w19.cell? ⟨gb170, 0, none⟩ = some (.string a0_0) := (blk_cell BK170.out 0).trans rfl; have hcz21_1 : w19.cell? ⟨gb170, 1, none⟩ = some (.int .i64 a0_1) := (blk_cell BK170.out 1).trans rfl; have hcz21_2 : w19.cell? ⟨gb170, 2, none⟩ = some (.int .i64 a0_2) := (blk_cell BK170.out 2).trans rfl; have hcz21_3 : w19.cell? ⟨gb170, 3, none⟩ = some (.slice A0_3 l0_3.length c0_3) := (blk_cell BK170.out 3).trans rfl; have hcz21_4 : w19.cell? ⟨gb170, 4, none⟩ = some (.int .i64 a0_4) := (blk_cell BK170.out 4).trans rfl; have hfz21_0 := blk_frozen BK170.out 0; have hfz21_1 := blk_frozen BK170.out 1; have hfz21_2 := blk_frozen BK170.out 2; have hfz21_3 := blk_frozen BK170.out 3; have hfz21_4 := blk_frozen BK170.out 4; have hcz22_0 : w19.cell? ⟨gb171, 0, none⟩ = some (.string a1_0) := (blk_cell BK171.out 0).trans rfl; have hcz22_1 : w19.cell? ⟨gb171, 1, none⟩ = some (.int .i64 a1_1) := (blk_cell BK171.out 1).trans rfl; have hcz22_2 : w19.cell? ⟨gb171, 2, none⟩ = some (.int .i64 a1_2) := (blk_cell BK171.out 2).trans rfl; have hcz22_3 : w19.cell? ⟨gb171, 3, none⟩ = some (.slice A1_3 l1_3.length c1_3) := (blk_cell BK171.out 3).trans rfl; have hcz22_4 : w19.cell? ⟨gb171, 4, none⟩ = some (.int .i64 a1_4) := (blk_cell BK171.out 4).trans rfl; have hfz22_0 := blk_frozen BK171.out 0; have hfz22_1 := blk_frozen BK171.out 1; have hfz22_2 := blk_frozen BK171.out 2; have hfz22_3 := blk_frozen BK171.out 3; have hfz22_4 := blk_frozen BK171.out 4))
        go_ret
        exact ⟨by first | rfl | (simp [errW_none, errW_some] <;> rfl) | (simp [*, errW_none, errW_some] <;> rfl), by repeat (first | (with_reducible first | exact HB.out | apply below_alloc | apply pw_below_drewN | apply below_drew1 | refine below_set ?_ GE170.out | refine below_set ?_ GE171.out) | exact HB.out)⟩
    · rw [if_neg c4] at H
      have c4b0 : (a0_1 == a1_1) = false := beq_eq_false_iff_ne.mpr c4
      have c4b1 : (a0_1 != a1_1) = true := bne_iff_ne.mpr c4
      obtain rfl := Option.some.inj H
      go_enter Try.func18, Try.ntmps18
      go_wp2_with (first | ((with_reducible refine gate_dst (N := 2) rfl ?_); refine box_event ?hg (N := 2) ?hd (cs := #[.string a0_0, .int .i64 a0_1, .int .i64 a0_2, .slice A0_3 l0_3.length c0_3, .int .i64 a0_4]) (t := 33) ?hr ?_; (case hd => rfl); (case hg => rfl); (case hr => first | (go_simp; done) | (go_simp; rfl)); intro gb170 hg w23 hbox hb; have n0_ := Aside0.mk (below_step (by repeat (first | (with_reducible first | exact HB.out | apply below_alloc | apply pw_below_drewN | apply below_drew1) | exact HB.out)) hb); have n1_ := Aside0.mk (hbox); have n2_ := Aside0.mk ((by rw [hg]; exact (below_size (by repeat (first | (with_reducible first | exact HB.out | apply below_alloc | apply pw_below_drewN | apply below_drew1) | exact HB.out))) : w.heap.size ≤ gb170)); have n3_ := Aside0.mk ((by rw [hg]; exact (below_size (by repeat (first | (with_reducible first | exact HB.out | apply below_alloc | apply pw_below_drewN | apply below_drew1) | exact HB.out))) : w.heap.size ≤ gb170)); clear HB; have HB := n0_; have BK170 := n1_; have GW170 := n2_; have GE170 := n3_; clear n0_ n1_ n2_ n3_; clear hb hbox hg) | ((with_reducible refine gate_dst (N := 3) rfl ?_); refine box_event ?hg (N := 3) ?hd (cs := #[.string a1_0, .int .i64 a1_1, .int .i64 a1_2, .slice A1_3 l1_3.length c1_3, .int .i64 a1_4]) (t := 33) ?hr ?_; (case hd => rfl); (case hg => rfl); (case hr => first | (go_simp; done) | (go_simp; rfl)); intro gb171 hg w24 hbox hb; have n0_ := Aside0.mk (blk_below (g := gb170) (o := .cells #[.string a0_0, .int .i64 a0_1, .int .i64 a0_2, .slice A0_3 l0_3.length c0_3, .int .i64 a0_4] 33 (0, 0)) (by (with_reducible repeat (first | refine blk_drewN ?_ _ | refine blk_drew ?_ | refine blk_alloc ?_ _)); exact BK170.out) hb); have n1_ := Aside0.mk (below_step (by repeat (first | (with_reducible first | exact HB.out | apply below_alloc | apply pw_below_drewN | apply below_drew1 | refine below_set ?_ GE170.out) | exact HB.out)) hb); have n2_ := Aside0.mk (hbox); have n3_ := Aside0.mk ((by rw [hg]; exact (below_size (by repeat (first | (with_reducible first | exact HB.out | apply below_alloc | apply pw_below_drewN | apply below_drew1 | refine below_set ?_ GE170.out) | exact HB.out))) : w.heap.size ≤ gb171)); have n4_ := Aside0.mk ((by rw [hg]; exact (below_size (by repeat (first | (with_reducible first | exact HB.out | apply below_alloc | apply pw_below_drewN | apply below_drew1 | refine below_set ?_ GE170.out) | exact HB.out))) : w.heap.size ≤ gb171)); have n5_ := Aside0.mk ((by rw [hg]; exact Nat.ne_of_lt (blk_lt (g := gb170) (o := .cells #[.string a0_0, .int .i64 a0_1, .int .i64 a0_2, .slice A0_3 l0_3.length c0_3, .int .i64 a0_4] 33 (0, 0)) (by (with_reducible repeat (first | refine blk_drewN ?_ _ | refine blk_drew ?_ | refine blk_alloc ?_ _)); exact BK170.out)) : gb170 ≠ gb171)); have n6_ := Aside0.mk ((by rw [hg]; exact Nat.ne_of_gt (blk_lt (g := gb170) (o := .cells #[.string a0_0, .int .i64 a0_1, .int .i64 a0_2, .slice A0_3 l0_3.length c0_3, .int .i64 a0_4] 33 (0, 0)) (by (with_reducible repeat (first | refine blk_drewN ?_ _ | refine blk_drew ?_ | refine blk_alloc ?_ _)); exact BK170.out)) : gb171 ≠ gb170)); clear BK170; clear HB; have BK170 := n0_; have HB := n1_; have BK171 := n2_; have GW171 := n3_; have GE171 := n4_; have NB170_171 := n5_; have NB171_170 := n6_; clear n0_ n1_ n2_ n3_ n4_ n5_ n6_; clear hb hbox hg; have hnb25 := NB170_171.out; have hnc25 := NB171_170.out; have hcz26_0 : w24.cell? ⟨gb170, 0, none⟩ = some (.string a0_0) := (blk_cell BK170.out 0).trans rfl; have hcz26_1 : w24.cell? ⟨gb170, 1, none⟩ = some (.int .i64 a0_1) := (blk_cell BK170.out 1).trans rfl; have hcz26_2 : w24.cell? ⟨gb170, 2, none⟩ = some (.int .i64 a0_2) := (blk_cell BK170.out 2).trans rfl; have hcz26_3 : w24.cell? ⟨gb170, 3, none⟩ = some (.slice A0_3 l0_3.length c0_3) := (blk_cell BK170.out 3).trans rfl; have hcz26_4 : w24.cell? ⟨gb170, 4, none⟩ = some (.int .i64 a0_4) := (blk_cell BK170.out 4).trans rfl; have hfz26_0 := blk_frozen BK170.out 0; have hfz26_1 := blk_frozen BK170.out 1; have hfz26_2 := blk_frozen BK170.out 2; have hfz26_3 := blk_frozen BK170.out 3; have hfz26_4 := blk_frozen BK170.out 4; have hcz27_0 : w24.cell? ⟨gb171, 0, none⟩ = some (.string a1_0) := (blk_cell BK171.out 0).trans rfl; have hcz27_1 : w24.cell? ⟨gb171, 1, none⟩ = some (.int .i64 a1_1) := (blk_cell BK171.out 1).trans rfl; have hcz27_2 : w24.cell? ⟨gb171, 2, none⟩ = some (.int .i64 a1_2) := (blk_cell BK171.out 2).trans rfl; have hcz27_3 : w24.cell? ⟨gb171, 3, none⟩ = some (.slice A1_3 l1_3.length c1_3) := (blk_cell BK171.out 3).trans rfl; have hcz27_4 : w24.cell? ⟨gb171, 4, none⟩ = some (.int .i64 a1_4) := (blk_cell BK171.out 4).trans rfl; have hfz27_0 := blk_frozen BK171.out 0; have hfz27_1 := blk_frozen BK171.out 1; have hfz27_2 := blk_frozen BK171.out 2; have hfz27_3 := blk_frozen BK171.out 3; have hfz27_4 := blk_frozen BK171.out 4))
      go_ret
      exact ⟨by first | rfl | (simp [errW_none, errW_some] <;> rfl) | (simp [*, errW_none, errW_some] <;> rfl), by repeat (first | (with_reducible first | exact HB.out | apply below_alloc | apply pw_below_drewN | apply below_drew1 | refine below_set ?_ GE170.out | refine below_set ?_ GE171.out) | exact HB.out)⟩
  · rw [if_neg c3] at H
    have c3b0 : (a0_0.toList == a1_0.toList) = false := beq_eq_false_iff_ne.mpr c3
    have c3b1 : (a0_0.toList != a1_0.toList) = true := bne_iff_ne.mpr c3
    obtain rfl := Option.some.inj H
    go_enter Try.func18, Try.ntmps18
    go_wp2_with (first | ((with_reducible refine gate_dst (N := 2) rfl ?_); refine box_event ?hg (N := 2) ?hd (cs := #[.string a0_0, .int .i64 a0_1, .int .i64 a0_2, .slice A0_3 l0_3.length c0_3, .int .i64 a0_4]) (t := 33) ?hr ?_; (case hd => rfl); (case hg => rfl); (case hr => first | (go_simp; done) | (go_simp; rfl)); intro gb170 hg w28 hbox hb; have n0_ := Aside0.mk (below_step (by repeat (first | (with_reducible first | exact HB.out | apply below_alloc | apply pw_below_drewN | apply below_drew1) | exact HB.out)) hb); have n1_ := Aside0.mk (hbox); have n2_ := Aside0.mk ((by rw [hg]; exact (below_size (by repeat (first | (with_reducible first | exact HB.out | apply below_alloc | apply pw_below_drewN | apply below_drew1) | exact HB.out))) : w.heap.size ≤ gb170)); have n3_ := Aside0.mk ((by rw [hg]; exact (below_size (by repeat (first | (with_reducible first | exact HB.out | apply below_alloc | apply pw_below_drewN | apply below_drew1) | exact HB.out))) : w.heap.size ≤ gb170)); clear HB; have HB := n0_; have BK170 := n1_; have GW170 := n2_; have GE170 := n3_; clear n0_ n1_ n2_ n3_; clear hb hbox hg) | ((with_reducible refine gate_dst (N := 3) rfl ?_); refine box_event ?hg (N := 3) ?hd (cs := #[.string a1_0, .int .i64 a1_1, .int .i64 a1_2, .slice A1_3 l1_3.length c1_3, .int .i64 a1_4]) (t := 33) ?hr ?_; (case hd => rfl); (case hg => rfl); (case hr => first | (go_simp; done) | (go_simp; rfl)); intro gb171 hg w29 hbox hb; have n0_ := Aside0.mk (blk_below (g := gb170) (o := .cells #[.string a0_0, .int .i64 a0_1, .int .i64 a0_2, .slice A0_3 l0_3.length c0_3, .int .i64 a0_4] 33 (0, 0)) (by (with_reducible repeat (first | refine blk_drewN ?_ _ | refine blk_drew ?_ | refine blk_alloc ?_ _)); exact BK170.out) hb); have n1_ := Aside0.mk (below_step (by repeat (first | (with_reducible first | exact HB.out | apply below_alloc | apply pw_below_drewN | apply below_drew1 | refine below_set ?_ GE170.out) | exact HB.out)) hb); have n2_ := Aside0.mk (hbox); have n3_ := Aside0.mk ((by rw [hg]; exact (below_size (by repeat (first | (with_reducible first | exact HB.out | apply below_alloc | apply pw_below_drewN | apply below_drew1 | refine below_set ?_ GE170.out) | exact HB.out))) : w.heap.size ≤ gb171)); have n4_ := Aside0.mk ((by rw [hg]; exact (below_size (by repeat (first | (with_reducible first | exact HB.out | apply below_alloc | apply pw_below_drewN | apply below_drew1 | refine below_set ?_ GE170.out) | exact HB.out))) : w.heap.size ≤ gb171)); have n5_ := Aside0.mk ((by rw [hg]; exact Nat.ne_of_lt (blk_lt (g := gb170) (o := .cells #[.string a0_0, .int .i64 a0_1, .int .i64 a0_2, .slice A0_3 l0_3.length c0_3, .int .i64 a0_4] 33 (0, 0)) (by (with_reducible repeat (first | refine blk_drewN ?_ _ | refine blk_drew ?_ | refine blk_alloc ?_ _)); exact BK170.out)) : gb170 ≠ gb171)); have n6_ := Aside0.mk ((by rw [hg]; exact Nat.ne_of_gt (blk_lt (g := gb170) (o := .cells #[.string a0_0, .int .i64 a0_1, .int .i64 a0_2, .slice A0_3 l0_3.length c0_3, .int .i64 a0_4] 33 (0, 0)) (by (with_reducible repeat (first | refine blk_drewN ?_ _ | refine blk_drew ?_ | refine blk_alloc ?_ _)); exact BK170.out)) : gb171 ≠ gb170)); clear BK170; clear HB; have BK170 := n0_; have HB := n1_; have BK171 := n2_; have GW171 := n3_; have GE171 := n4_; have NB170_171 := n5_; have NB171_170 := n6_; clear n0_ n1_ n2_ n3_ n4_ n5_ n6_; clear hb hbox hg; have hnb30 := NB170_171.out; have hnc30 := NB171_170.out; have hcz31_0 : w29.cell? ⟨gb170, 0, none⟩ = some (.string a0_0) := (blk_cell BK170.out 0).trans rfl; have hcz31_1 : w29.cell? ⟨gb170, 1, none⟩ = some (.int .i64 a0_1) := (blk_cell BK170.out 1).trans rfl; have hcz31_2 : w29.cell? ⟨gb170, 2, none⟩ = some (.int .i64 a0_2) := (blk_cell BK170.out 2).trans rfl; have hcz31_3 : w29.cell? ⟨gb170, 3, none⟩ = some (.slice A0_3 l0_3.length c0_3) := (blk_cell BK170.out 3).trans rfl; have hcz31_4 : w29.cell? ⟨gb170, 4, none⟩ = some (.int .i64 a0_4) := (blk_cell BK170.out 4).trans rfl; have hfz31_0 := blk_frozen BK170.out 0; have hfz31_1 := blk_frozen BK170.out 1; have hfz31_2 := blk_frozen BK170.out 2; have hfz31_3 := blk_frozen BK170.out 3; have hfz31_4 := blk_frozen BK170.out 4; have hcz32_0 : w29.cell? ⟨gb171, 0, none⟩ = some (.string a1_0) := (blk_cell BK171.out 0).trans rfl; have hcz32_1 : w29.cell? ⟨gb171, 1, none⟩ = some (.int .i64 a1_1) := (blk_cell BK171.out 1).trans rfl; have hcz32_2 : w29.cell? ⟨gb171, 2, none⟩ = some (.int .i64 a1_2) := (blk_cell BK171.out 2).trans rfl; have hcz32_3 : w29.cell? ⟨gb171, 3, none⟩ = some (.slice A1_3 l1_3.length c1_3) := (blk_cell BK171.out 3).trans rfl; have hcz32_4 : w29.cell? ⟨gb171, 4, none⟩ = some (.int .i64 a1_4) := (blk_cell BK171.out 4).trans rfl; have hfz32_0 := blk_frozen BK171.out 0; have hfz32_1 := blk_frozen BK171.out 1; have hfz32_2 := blk_frozen BK171.out 2; have hfz32_3 := blk_frozen BK171.out 3; have hfz32_4 := blk_frozen BK171.out 4))
    go_ret
    exact ⟨by first | rfl | (simp [errW_none, errW_some] <;> rfl) | (simp [*, errW_none, errW_some] <;> rfl), by repeat (first | (with_reducible first | exact HB.out | apply below_alloc | apply pw_below_drewN | apply below_drew1 | refine below_set ?_ GE170.out | refine below_set ?_ GE171.out) | exact HB.out)⟩

/-! ### lin_Check: function 7 -/
mutual
def lin_Check.l0 : Nat → List (S35) → Int → Int → Option (Int × Int)
  | 0, _, _, _ => none
  | k + 1, x9, x10, x11 => if x11 < x10 then (if 0 ≤ x11 then (if x11 < (x9.length : Int) then (if ((rd_T35 x9 x11).f2) < 0 then (lin_Check.j1 k x11 x9 x10 x11 (decide (((rd_T35 x9 x11).f2) < 0)) ((rd_T35 x9 x11).f0.f0) ((rd_T35 x9 x11).f0.f1) ((rd_T35 x9 x11).f0.f2) ((rd_T35 x9 x11).f0.f3) ((rd_T35 x9 x11).f0.f4) ((rd_T35 x9 x11).f0.f5) ((rd_T35 x9 x11).f1.f0) ((rd_T35 x9 x11).f1.f1) ((rd_T35 x9 x11).f1.f2) ((rd_T35 x9 x11).f1.f3) ((rd_T35 x9 x11).f1.f4) ((rd_T35 x9 x11).f2) ((rd_T35 x9 x11).f3) ((rd_T35 x9 x11).f4)) else (if ((rd_T35 x9 x11).f3) < ((rd_T35 x9 x11).f2) then (lin_Check.j1 k x11 x9 x10 x11 (decide (((rd_T35 x9 x11).f3) < ((rd_T35 x9 x11).f2))) ((rd_T35 x9 x11).f0.f0) ((rd_T35 x9 x11).f0.f1) ((rd_T35 x9 x11).f0.f2) ((rd_T35 x9 x11).f0.f3) ((rd_T35 x9 x11).f0.f4) ((rd_T35 x9 x11).f0.f5) ((rd_T35 x9 x11).f1.f0) ((rd_T35 x9 x11).f1.f1) ((rd_T35 x9 x11).f1.f2) ((rd_T35 x9 x11).f1.f3) ((rd_T35 x9 x11).f1.f4) ((rd_T35 x9 x11).f2) ((rd_T35 x9 x11).f3) ((rd_T35 x9 x11).f4)) else (lin_Check.j1 k x11 x9 x10 x11 (decide (((rd_T35 x9 x11).f3) > 4611686018427387904)) ((rd_T35 x9 x11).f0.f0) ((rd_T35 x9 x11).f0.f1) ((rd_T35 x9 x11).f0.f2) ((rd_T35 x9 x11).f0.f3) ((rd_T35 x9 x11).f0.f4) ((rd_T35 x9 x11).f0.f5) ((rd_T35 x9 x11).f1.f0) ((rd_T35 x9 x11).f1.f1) ((rd_T35 x9 x11).f1.f2) ((rd_T35 x9 x11).f1.f3) ((rd_T35 x9 x11).f1.f4) ((rd_T35 x9 x11).f2) ((rd_T35 x9 x11).f3) ((rd_T35 x9 x11).f4)))) else (none)) else (none)) else (some (0, 0))
def lin_Check.j1 : Nat → Int → List (S35) → Int → Int → Bool → ByteArray → Int → List (S40) → ByteArray → Int → Int → ByteArray → Int → Int → List (S42) → Int → Int → Int → Bool → Option (Int × Int)
  | 0, _, _, _, _, _, _, _, _, _, _, _, _, _, _, _, _, _, _, _ => none
  | k + 1, x4, x9, x10, x11, x16, x175000, x175001, x175002, x175003, x175004, x175005, x175006, x175007, x175008, x175009, x175010, x175011, x175012, x175013 => if x16 = true then (some (160, x4)) else (if x175013 = true then ((lin_same.f k x175006 x175007 x175008 x175009 x175010 (⟨#[]⟩ : ByteArray) 0 0 ([] : List (S42)) 0).bind fun t175 => (if t175 = true then (lin_Check.l0 k x9 x10 (wrap64 (x11 + 1))) else (some (161, x4)))) else (lin_Check.l0 k x9 x10 (wrap64 (x11 + 1))))
end
def lin_Check.f (k : Nat) (l0 : List (S35)) : Option (Int × Int) := if (l0.length : Int) > 4096 then (some (162, 4096)) else (lin_Check.l0 k l0 (l0.length : Int) 0)
theorem lin_Check.mono_l : ∀ k, (∀ y0 y1 y2, LeO (lin_Check.l0 k y0 y1 y2) (lin_Check.l0 (k + 1) y0 y1 y2)) ∧ (∀ y0 y1 y2 y3 y4 y5 y6 y7 y8 y9 y10 y11 y12 y13 y14 y15 y16 y17 y18, LeO (lin_Check.j1 k y0 y1 y2 y3 y4 y5 y6 y7 y8 y9 y10 y11 y12 y13 y14 y15 y16 y17 y18) (lin_Check.j1 (k + 1) y0 y1 y2 y3 y4 y5 y6 y7 y8 y9 y10 y11 y12 y13 y14 y15 y16 y17 y18))
  | 0 => ⟨fun _ _ _ r h => by simp [lin_Check.l0] at h, fun _ _ _ _ _ _ _ _ _ _ _ _ _ _ _ _ _ _ _ r h => by simp [lin_Check.j1] at h⟩
  | k + 1 => by
    obtain ⟨ih0, ih1⟩ := lin_Check.mono_l k
    refine ⟨?_, ?_⟩
    · intro y0 y1 y2
      unfold lin_Check.l0
      repeat' first
      | (with_reducible exact ih0 _ _ _)
      | (with_reducible exact ih1 _ _ _ _ _ _ _ _ _ _ _ _ _ _ _ _ _ _ _)
      | (with_reducible exact lin_same.mono _ _ _ _ _ _ _ _ _ _ _)
      | (with_reducible exact LeO.refl _)
      | (with_reducible exact LeO.none _)
      | (with_reducible refine LeO.ite ?_ ?_)
      | (with_reducible refine LeO.bind ?_ (fun _ => ?_))
      | exact ih0 _ _ _
      | exact ih1 _ _ _ _ _ _ _ _ _ _ _ _ _ _ _ _ _ _ _
      | exact lin_same.mono _ _ _ _ _ _ _ _ _ _ _
      | exact LeO.none _
      | refine LeO.ite ?_ ?_
      | refine LeO.bind ?_ (fun _ => ?_)
    · intro y0 y1 y2 y3 y4 y5 y6 y7 y8 y9 y10 y11 y12 y13 y14 y15 y16 y17 y18
      unfold lin_Check.j1
      repeat' first
      | (with_reducible exact ih0 _ _ _)
      | (with_reducible exact ih1 _ _ _ _ _ _ _ _ _ _ _ _ _ _ _ _ _ _ _)
      | (with_reducible exact lin_same.mono _ _ _ _ _ _ _ _ _ _ _)
      | (with_reducible exact LeO.refl _)
      | (with_reducible exact LeO.none _)
      | (with_reducible refine LeO.ite ?_ ?_)
      | (with_reducible refine LeO.bind ?_ (fun _ => ?_))
      | exact ih0 _ _ _
      | exact ih1 _ _ _ _ _ _ _ _ _ _ _ _ _ _ _ _ _ _ _
      | exact lin_same.mono _ _ _ _ _ _ _ _ _ _ _
      | exact LeO.none _
      | refine LeO.ite ?_ ?_
      | refine LeO.bind ?_ (fun _ => ?_)
theorem lin_Check.mono : ∀ a0 k, LeO (lin_Check.f k a0) (lin_Check.f (k + 1) a0) := by
  intro a0 k
  obtain ⟨ih0, ih1⟩ := lin_Check.mono_l k
  unfold lin_Check.f
  repeat' first
      | (with_reducible exact ih0 _ _ _)
      | (with_reducible exact ih1 _ _ _ _ _ _ _ _ _ _ _ _ _ _ _ _ _ _ _)
      | (with_reducible exact lin_same.mono _ _ _ _ _ _ _ _ _ _ _)
      | (with_reducible exact LeO.refl _)
      | (with_reducible exact LeO.none _)
      | (with_reducible refine LeO.ite ?_ ?_)
      | (with_reducible refine LeO.bind ?_ (fun _ => ?_))
      | exact ih0 _ _ _
      | exact ih1 _ _ _ _ _ _ _ _ _ _ _ _ _ _ _ _ _ _ _
      | exact lin_same.mono _ _ _ _ _ _ _ _ _ _ _
      | exact LeO.none _
      | refine LeO.ite ?_ ?_
      | refine LeO.bind ?_ (fun _ => ?_)
set_option maxHeartbeats 8000000 in
set_option maxRecDepth 100000 in
theorem lin_Check.calls (k : Nat) (A0 : Option Addr) (c0 : Nat) (l0 : List (S35)) (r1 : Int) (r2 : Int) (w : World) (hr0 : Kd.C k35 w A0 l0.length l0) (hc0 : l0.length ≤ c0) (h : lin_Check.f k l0 = some (r1, r2)) :
    Calls Try.prog 7 #[.slice A0 l0.length c0] w fun e w' => e = .returned (.tuple #[.int .i64 r1, .int .i64 r2]) ∧ Below w.heap.size w w' := by
  have hu35 := Try.underlying35
  have hu33 := Try.underlying33
  have HR0 := Aside0.mk hr0
  have HC0 := Aside0.mk hc0
  clear hr0 hc0
  have HB := Aside0.mk (Below.refl w.heap.size w)
  have H : (if (l0.length : Int) > 4096 then (some (162, 4096)) else (lin_Check.l0 k l0 (l0.length : Int) 0)) = some (r1, r2) := h
  clear h
  by_cases c2 : (l0.length : Int) > 4096
  · rw [if_pos c2] at H
    have c2b0 : decide (4096 < (l0.length : Int)) = true := decide_eq_true c2
    have c2b1 : decide (4096 < l0.length) = true := decide_eq_true (by omega)
    clear c2
    simp only [Option.some.injEq, Prod.mk.injEq] at H
    obtain ⟨rfl, rfl⟩ := H
    go_enter Try.func7, Try.ntmps7
    go_wp2
    go_ret2
    exact ⟨by first | rfl | (simp [errW_none, errW_some] <;> rfl) | (simp [*, errW_none, errW_some] <;> rfl), by repeat (first | (with_reducible first | exact HB.out | apply below_alloc | apply pw_below_drewN | apply below_drew1) | exact HB.out)⟩
  · rw [if_neg c2] at H
    have c2b0 : decide (4096 < (l0.length : Int)) = false := decide_eq_false c2
    have c2b1 : decide (4096 < l0.length) = false := decide_eq_false (by omega)
    clear c2
    have H' := Aside0.mk H
    clear H
    go_enter Try.func7, Try.ntmps7
    go_wp2
    go_loopg [11] k (fun kq v11 w' => ∃ (x11_1 : Int), v11 = .int .i64 x11_1 ∧ Aside0 (lin_Check.l0 kq l0 (l0.length : Int) x11_1 = some (r1, r2)) ∧ Aside0 (kq ≤ k) ∧ Aside0 (Below w.heap.size w w'))
    case atStart => exact ⟨(0), (by first | rfl | (simp; done) | (simp [*]; done)), H', ⟨Nat.le_refl _⟩, ⟨by repeat (first | (with_reducible first | exact HB.out | apply below_alloc | apply pw_below_drewN | apply below_drew1) | exact HB.out)⟩⟩
    case round =>
      clear H'
      try clear c2
      try clear c2b0
      try clear c2b1
      try clear p2
      obtain ⟨x11_1, rfl, HA, HK1, HB⟩ := hrel
      cases gk with
      | zero => exact absurd HA.out (by simp [lin_Check.l0])
      | succ k1 =>
        have H := HA.out
        clear HA
        simp only [lin_Check.l0] at H
        by_cases c3 : x11_1 < (l0.length : Int)
        · rw [if_pos c3] at H
          have c3b0 : decide (x11_1 < (l0.length : Int)) = true := decide_eq_true c3
          clear c3
          by_cases c4 : 0 ≤ x11_1
          · rw [if_pos c4] at H
            have c4b0 : decide (0 ≤ x11_1) = true := decide_eq_true c4
            clear c4
            by_cases c5 : x11_1 < (l0.length : Int)
            · rw [if_pos c5] at H
              have c5b0 : decide (x11_1 < (l0.length : Int)) = true := decide_eq_true c5
              clear c5
              have HC6 := Aside0.mk H
              clear H
              have p173 : 0 ≤ (x11_1 : Int) := of_decide_eq_true (by first | (with_reducible assumption) | assumption)
              have q173 : x11_1 < (l0.length : Int) := of_decide_eq_true (by first | (with_reducible assumption) | assumption)
              obtain ⟨ad173, A173_2, c173_2, A173_9, c173_9, e173, hx173_0, hx173_1, hx173_2, hx173_3, hx173_4, hx173_5, hx173_6, hx173_7, hx173_8, hx173_9, hx173_10, hx173_11, hx173_12, hx173_13, hl173_2, hi173_2, hl173_9, hi173_9⟩ := at_T35 HR0.out x11_1 p173 q173
              cases e173
              replace hx173_0 := (HB.out.cell (World.block_lt_of_cell? w _ hx173_0)).trans hx173_0
              replace hx173_1 := (HB.out.cell (World.block_lt_of_cell? w _ hx173_1)).trans hx173_1
              replace hx173_2 := (HB.out.cell (World.block_lt_of_cell? w _ hx173_2)).trans hx173_2
              replace hx173_3 := (HB.out.cell (World.block_lt_of_cell? w _ hx173_3)).trans hx173_3
              replace hx173_4 := (HB.out.cell (World.block_lt_of_cell? w _ hx173_4)).trans hx173_4
              replace hx173_5 := (HB.out.cell (World.block_lt_of_cell? w _ hx173_5)).trans hx173_5
              replace hx173_6 := (HB.out.cell (World.block_lt_of_cell? w _ hx173_6)).trans hx173_6
              replace hx173_7 := (HB.out.cell (World.block_lt_of_cell? w _ hx173_7)).trans hx173_7
              replace hx173_8 := (HB.out.cell (World.block_lt_of_cell? w _ hx173_8)).trans hx173_8
              replace hx173_9 := (HB.out.cell (World.block_lt_of_cell? w _ hx173_9)).trans hx173_9
              replace hx173_10 := (HB.out.cell (World.block_lt_of_cell? w _ hx173_10)).trans hx173_10
              replace hx173_11 := (HB.out.cell (World.block_lt_of_cell? w _ hx173_11)).trans hx173_11
              replace hx173_12 := (HB.out.cell (World.block_lt_of_cell? w _ hx173_12)).trans hx173_12
              replace hx173_13 := (HB.out.cell (World.block_lt_of_cell? w _ hx173_13)).trans hx173_13
              have HR173_2 := Aside0.mk hi173_2
              have HC173_2 := Aside0.mk hl173_2
              clear hi173_2 hl173_2
              have HR173_9 := Aside0.mk hi173_9
              have HC173_9 := Aside0.mk hl173_9
              clear hi173_9 hl173_9
              replace p173 := eq_true p173
              replace q173 := eq_true q173
              go_upto_if 16 with (first | ((with_reducible refine gate_dst (N := 5) rfl ?_); refine box_event ?hg (N := 5) ?hd (cs := #[.string (⟨#[]⟩ : ByteArray), .int .i64 0, .slice none 0 0, .string (⟨#[]⟩ : ByteArray), .int .i64 0, .int .i64 0, .string (⟨#[]⟩ : ByteArray), .int .i64 0, .int .i64 0, .slice none 0 0, .int .i64 0, .int .i64 0, .int .i64 0, .bool false]) (t := 35) ?hr ?_; (case hd => rfl); (case hg => rfl); (case hr => first | (go_simp; done) | (go_simp; rfl)); intro gb174 hg w7 hbox hb; have n0_ := Aside0.mk (below_step (by repeat (first | (with_reducible first | exact HB.out | apply below_alloc | apply pw_below_drewN | apply below_drew1) | exact HB.out)) hb); have n1_ := Aside0.mk (hbox); have n2_ := Aside0.mk ((by rw [hg]; exact (below_size (by repeat (first | (with_reducible first | exact HB.out | apply below_alloc | apply pw_below_drewN | apply below_drew1) | exact HB.out))) : w.heap.size ≤ gb174)); have n3_ := Aside0.mk ((by rw [hg]; exact (below_size (by repeat (first | (with_reducible first | exact HB.out | apply below_alloc | apply pw_below_drewN | apply below_drew1) | exact HB.out))) : w.heap.size ≤ gb174)); clear HB; have HB := n0_; have BK174 := n1_; have GW174 := n2_; have GE174 := n3_; clear n0_ n1_ n2_ n3_; clear hb hbox hg; have hcz8_0 : w7.cell? ⟨gb174, 0, none⟩ = some (.string (⟨#[]⟩ : ByteArray)) := (blk_cell BK174.out 0).trans rfl; have hcz8_1 : w7.cell? ⟨gb174, 1, none⟩ = some (.int .i64 0) := (blk_cell BK174.out 1).trans rfl; have hcz8_2 : w7.cell? ⟨gb174, 2, none⟩ = some (.slice none 0 0) := (blk_cell BK174.out 2).trans rfl; have hcz8_3 : w7.cell? ⟨gb174, 3, none⟩ = some (.string (⟨#[]⟩ : ByteArray)) := (blk_cell BK174.out 3).trans rfl; have hcz8_4 : w7.cell? ⟨gb174, 4, none⟩ = some (.int .i64 0) := (blk_cell BK174.out 4).trans rfl; have hcz8_5 : w7.cell? ⟨gb174, 5, none⟩ = some (.int .i64 0) := (blk_cell BK174.out 5).trans rfl; have hcz8_6 : w7.cell? ⟨gb174, 6, none⟩ = some (.string (⟨#[]⟩ : ByteArray)) := (blk_cell BK174.out 6).trans rfl; have hcz8_7 : w7.cell? ⟨gb174, 7, none⟩ = some (.int .i64 0) := (blk_cell BK174.out 7).trans rfl; have hcz8_8 : w7.cell? ⟨gb174, 8, none⟩ = some (.int .i64 0) := (blk_cell BK174.out 8).trans rfl; have hcz8_9 : w7.cell? ⟨gb174, 9, none⟩ = some (.slice none 0 0) := (blk_cell BK174.out 9).trans rfl; have hcz8_10 : w7.cell? ⟨gb174, 10, none⟩ = some (.int .i64 0) := (blk_cell BK174.out 10).trans rfl; have hcz8_11 : w7.cell? ⟨gb174, 11, none⟩ = some (.int .i64 0) := (blk_cell BK174.out 11).trans rfl; have hcz8_12 : w7.cell? ⟨gb174, 12, none⟩ = some (.int .i64 0) := (blk_cell BK174.out 12).trans rfl; have hcz8_13 : w7.cell? ⟨gb174, 13, none⟩ = some (.bool false) := (blk_cell BK174.out 13).trans rfl; have hfz8_0 := blk_frozen BK174.out 0; have hfz8_1 := blk_frozen BK174.out 1; have hfz8_2 := blk_frozen BK174.out 2; have hfz8_3 := blk_frozen BK174.out 3; have hfz8_4 := blk_frozen BK174.out 4; have hfz8_5 := blk_frozen BK174.out 5; have hfz8_6 := blk_frozen BK174.out 6; have hfz8_7 := blk_frozen BK174.out 7; have hfz8_8 := blk_frozen BK174.out 8; have hfz8_9 := blk_frozen BK174.out 9; have hfz8_10 := blk_frozen BK174.out 10; have hfz8_11 := blk_frozen BK174.out 11; have hfz8_12 := blk_frozen BK174.out 12; have hfz8_13 := blk_frozen BK174.out 13))
              (try simp only [Act.put, List.setIfInBounds_toArray, List.set_cons_zero, List.set_cons_succ])
              go_cut [16] (fun v16 wc => ∃ (kq : Nat) (x16_5 : Bool), v16 = .bool x16_5 ∧ Aside0 (lin_Check.j1 kq x11_1 l0 (l0.length : Int) x11_1 x16_5 ((rd_T35 l0 x11_1).f0.f0) ((rd_T35 l0 x11_1).f0.f1) ((rd_T35 l0 x11_1).f0.f2) ((rd_T35 l0 x11_1).f0.f3) ((rd_T35 l0 x11_1).f0.f4) ((rd_T35 l0 x11_1).f0.f5) ((rd_T35 l0 x11_1).f1.f0) ((rd_T35 l0 x11_1).f1.f1) ((rd_T35 l0 x11_1).f1.f2) ((rd_T35 l0 x11_1).f1.f3) ((rd_T35 l0 x11_1).f1.f4) ((rd_T35 l0 x11_1).f2) ((rd_T35 l0 x11_1).f3) ((rd_T35 l0 x11_1).f4) = some (r1, r2)) ∧ Aside0 (kq ≤ k1) ∧ Aside0 (wc.heap[gb174]? = some (.cells #[.string ((rd_T35 l0 x11_1).f0.f0), .int .i64 ((rd_T35 l0 x11_1).f0.f1), (.slice A173_2 ((rd_T35 l0 x11_1).f0.f2).length c173_2), .string ((rd_T35 l0 x11_1).f0.f3), .int .i64 ((rd_T35 l0 x11_1).f0.f4), .int .i64 ((rd_T35 l0 x11_1).f0.f5), .string ((rd_T35 l0 x11_1).f1.f0), .int .i64 ((rd_T35 l0 x11_1).f1.f1), .int .i64 ((rd_T35 l0 x11_1).f1.f2), (.slice A173_9 ((rd_T35 l0 x11_1).f1.f3).length c173_9), .int .i64 ((rd_T35 l0 x11_1).f1.f4), .int .i64 ((rd_T35 l0 x11_1).f2), .int .i64 ((rd_T35 l0 x11_1).f3), .bool ((rd_T35 l0 x11_1).f4)] 35 (0, 0))) ∧ Aside0 (Below w.heap.size w wc))
              case first =>
                have H := HC6.out
                clear HC6
                by_cases c9 : ((rd_T35 l0 x11_1).f2) < 0
                · rw [if_pos c9] at H
                  have c9b0 : decide (((rd_T35 l0 x11_1).f2) < 0) = true := decide_eq_true c9
                  clear c9
                  (first | rw [c9b0] | (simp only [i64_w, i32_w]; rw [c9b0]) | skip)
                  have H' := Aside0.mk H
                  clear H
                  go_wp2
                  go_meet
                  case rel => exact ⟨_, (decide (((rd_T35 l0 x11_1).f2) < 0)), (by first | rfl | (simp; done) | (simp [*]; done)), H', ⟨by have := HK1.out; first | omega | exact Nat.le_refl _⟩, ⟨by (with_reducible repeat (first | refine blk_drewN ?_ _ | refine blk_drew ?_ | refine blk_alloc ?_ _)); refine blk_put (cs := #[.string ((rd_T35 l0 x11_1).f0.f0), .int .i64 ((rd_T35 l0 x11_1).f0.f1), .slice A173_2 ((rd_T35 l0 x11_1).f0.f2).length c173_2, .string ((rd_T35 l0 x11_1).f0.f3), .int .i64 ((rd_T35 l0 x11_1).f0.f4), .int .i64 ((rd_T35 l0 x11_1).f0.f5), .string ((rd_T35 l0 x11_1).f1.f0), .int .i64 ((rd_T35 l0 x11_1).f1.f1), .int .i64 ((rd_T35 l0 x11_1).f1.f2), .slice A173_9 ((rd_T35 l0 x11_1).f1.f3).length c173_9, .int .i64 ((rd_T35 l0 x11_1).f1.f4), .int .i64 ((rd_T35 l0 x11_1).f2), .int .i64 ((rd_T35 l0 x11_1).f3), .bool false]) ?_ 13 _ rfl; (with_reducible repeat (first | refine blk_drewN ?_ _ | refine blk_drew ?_ | refine blk_alloc ?_ _)); refine blk_put (cs := #[.string ((rd_T35 l0 x11_1).f0.f0), .int .i64 ((rd_T35 l0 x11_1).f0.f1), .slice A173_2 ((rd_T35 l0 x11_1).f0.f2).length c173_2, .string ((rd_T35 l0 x11_1).f0.f3), .int .i64 ((rd_T35 l0 x11_1).f0.f4), .int .i64 ((rd_T35 l0 x11_1).f0.f5), .string ((rd_T35 l0 x11_1).f1.f0), .int .i64 ((rd_T35 l0 x11_1).f1.f1), .int .i64 ((rd_T35 l0 x11_1).f1.f2), .slice A173_9 ((rd_T35 l0 x11_1).f1.f3).length c173_9, .int .i64 ((rd_T35 l0 x11_1).f1.f4), .int .i64 ((rd_T35 l0 x11_1).f2), .int .i64 0, .bool false]) ?_ 12 _ rfl; (with_reducible repeat (first | refine blk_drewN ?_ _ | refine blk_drew ?_ | refine blk_alloc ?_ _)); refine blk_put (cs := #[.string ((rd_T35 l0 x11_1).f0.f0), .int .i64 ((rd_T35 l0 x11_1).f0.f1), .slice A173_2 ((rd_T35 l0 x11_1).f0.f2).length c173_2, .string ((rd_T35 l0 x11_1).f0.f3), .int .i64 ((rd_T35 l0 x11_1).f0.f4), .int .i64 ((rd_T35 l0 x11_1).f0.f5), .string ((rd_T35 l0 x11_1).f1.f0), .int .i64 ((rd_T35 l0 x11_1).f1.f1), .int .i64 ((rd_T35 l0 x11_1).f1.f2), .slice A173_9 ((rd_T35 l0 x11_1).f1.f3).length c173_9, .int .i64 ((rd_T35 l0 x11_1).f1.f4), .int .i64 0, .int .i64 0, .bool false]) ?_ 11 _ rfl; (with_reducible repeat (first | refine blk_drewN ?_ _ | refine blk_drew ?_ | refine blk_alloc ?_ _)); refine blk_put (cs := #[.string ((rd_T35 l0 x11_1).f0.f0), .int .i64 ((rd_T35 l0 x11_1).f0.f1), .slice A173_2 ((rd_T35 l0 x11_1).f0.f2).length c173_2, .string ((rd_T35 l0 x11_1).f0.f3), .int .i64 ((rd_T35 l0 x11_1).f0.f4), .int .i64 ((rd_T35 l0 x11_1).f0.f5), .string ((rd_T35 l0 x11_1).f1.f0), .int .i64 ((rd_T35 l0 x11_1).f1.f1), .int .i64 ((rd_T35 l0 x11_1).f1.f2), .slice A173_9 ((rd_T35 l0 x11_1).f1.f3).length c173_9, .int .i64 0, .int .i64 0, .int .i64 0, .bool false]) ?_ 10 _ rfl; (with_reducible repeat (first | refine blk_drewN ?_ _ | refine blk_drew ?_ | refine blk_alloc ?_ _)); refine blk_put (cs := #[.string ((rd_T35 l0 x11_1).f0.f0), .int .i64 ((rd_T35 l0 x11_1).f0.f1), .slice A173_2 ((rd_T35 l0 x11_1).f0.f2).length c173_2, .string ((rd_T35 l0 x11_1).f0.f3), .int .i64 ((rd_T35 l0 x11_1).f0.f4), .int .i64 ((rd_T35 l0 x11_1).f0.f5), .string ((rd_T35 l0 x11_1).f1.f0), .int .i64 ((rd_T35 l0 x11_1).f1.f1), .int .i64 ((rd_T35 l0 x11_1).f1.f2), .slice none 0 0, .int .i64 0, .int .i64 0, .int .i64 0, .bool false]) ?_ 9 _ rfl; (with_reducible repeat (first | refine blk_drewN ?_ _ | refine blk_drew ?_ | refine blk_alloc ?_ _)); refine blk_put (cs := #[.string ((rd_T35 l0 x11_1).f0.f0), .int .i64 ((rd_T35 l0 x11_1).f0.f1), .slice A173_2 ((rd_T35 l0 x11_1).f0.f2).length c173_2, .string ((rd_T35 l0 x11_1).f0.f3), .int .i64 ((rd_T35 l0 x11_1).f0.f4), .int .i64 ((rd_T35 l0 x11_1).f0.f5), .string ((rd_T35 l0 x11_1).f1.f0), .int .i64 ((rd_T35 l0 x11_1).f1.f1), .int .i64 0, .slice none 0 0, .int .i64 0, .int .i64 0, .int .i64 0, .bool false]) ?_ 8 _ rfl; (with_reducible repeat (first | refine blk_drewN ?_ _ | refine blk_drew ?_ | refine blk_alloc ?_ _)); refine blk_put (cs := #[.string ((rd_T35 l0 x11_1).f0.f0), .int .i64 ((rd_T35 l0 x11_1).f0.f1), .slice A173_2 ((rd_T35 l0 x11_1).f0.f2).length c173_2, .string ((rd_T35 l0 x11_1).f0.f3), .int .i64 ((rd_T35 l0 x11_1).f0.f4), .int .i64 ((rd_T35 l0 x11_1).f0.f5), .string ((rd_T35 l0 x11_1).f1.f0), .int .i64 0, .int .i64 0, .slice none 0 0, .int .i64 0, .int .i64 0, .int .i64 0, .bool false]) ?_ 7 _ rfl; (with_reducible repeat (first | refine blk_drewN ?_ _ | refine blk_drew ?_ | refine blk_alloc ?_ _)); refine blk_put (cs := #[.string ((rd_T35 l0 x11_1).f0.f0), .int .i64 ((rd_T35 l0 x11_1).f0.f1), .slice A173_2 ((rd_T35 l0 x11_1).f0.f2).length c173_2, .string ((rd_T35 l0 x11_1).f0.f3), .int .i64 ((rd_T35 l0 x11_1).f0.f4), .int .i64 ((rd_T35 l0 x11_1).f0.f5), .string (⟨#[]⟩ : ByteArray), .int .i64 0, .int .i64 0, .slice none 0 0, .int .i64 0, .int .i64 0, .int .i64 0, .bool false]) ?_ 6 _ rfl; (with_reducible repeat (first | refine blk_drewN ?_ _ | refine blk_drew ?_ | refine blk_alloc ?_ _)); refine blk_put (cs := #[.string ((rd_T35 l0 x11_1).f0.f0), .int .i64 ((rd_T35 l0 x11_1).f0.f1), .slice A173_2 ((rd_T35 l0 x11_1).f0.f2).length c173_2, .string ((rd_T35 l0 x11_1).f0.f3), .int .i64 ((rd_T35 l0 x11_1).f0.f4), .int .i64 0, .string (⟨#[]⟩ : ByteArray), .int .i64 0, .int .i64 0, .slice none 0 0, .int .i64 0, .int .i64 0, .int .i64 0, .bool false]) ?_ 5 _ rfl; (with_reducible repeat (first | refine blk_drewN ?_ _ | refine blk_drew ?_ | refine blk_alloc ?_ _)); refine blk_put (cs := #[.string ((rd_T35 l0 x11_1).f0.f0), .int .i64 ((rd_T35 l0 x11_1).f0.f1), .slice A173_2 ((rd_T35 l0 x11_1).f0.f2).length c173_2, .string ((rd_T35 l0 x11_1).f0.f3), .int .i64 0, .int .i64 0, .string (⟨#[]⟩ : ByteArray), .int .i64 0, .int .i64 0, .slice none 0 0, .int .i64 0, .int .i64 0, .int .i64 0, .bool false]) ?_ 4 _ rfl; (with_reducible repeat (first | refine blk_drewN ?_ _ | refine blk_drew ?_ | refine blk_alloc ?_ _)); refine blk_put (cs := #[.string ((rd_T35 l0 x11_1).f0.f0), .int .i64 ((rd_T35 l0 x11_1).f0.f1), .slice A173_2 ((rd_T35 l0 x11_1).f0.f2).length c173_2, .string (⟨#[]⟩ : ByteArray), .int .i64 0, .int .i64 0, .string (⟨#[]⟩ : ByteArray), .int .i64 0, .int .i64 0, .slice none 0 0, .int .i64 0, .int .i64 0, .int .i64 0, .bool false]) ?_ 3 _ rfl; (with_reducible repeat (first | refine blk_drewN ?_ _ | refine blk_drew ?_ | refine blk_alloc ?_ _)); refine blk_put (cs := #[.string ((rd_T35 l0 x11_1).f0.f0), .int .i64 ((rd_T35 l0 x11_1).f0.f1), .slice none 0 0, .string (⟨#[]⟩ : ByteArray), .int .i64 0, .int .i64 0, .string (⟨#[]⟩ : ByteArray), .int .i64 0, .int .i64 0, .slice none 0 0, .int .i64 0, .int .i64 0, .int .i64 0, .bool false]) ?_ 2 _ rfl; (with_reducible repeat (first | refine blk_drewN ?_ _ | refine blk_drew ?_ | refine blk_alloc ?_ _)); refine blk_put (cs := #[.string ((rd_T35 l0 x11_1).f0.f0), .int .i64 0, .slice none 0 0, .string (⟨#[]⟩ : ByteArray), .int .i64 0, .int .i64 0, .string (⟨#[]⟩ : ByteArray), .int .i64 0, .int .i64 0, .slice none 0 0, .int .i64 0, .int .i64 0, .int .i64 0, .bool false]) ?_ 1 _ rfl; (with_reducible repeat (first | refine blk_drewN ?_ _ | refine blk_drew ?_ | refine blk_alloc ?_ _)); refine blk_put (cs := #[.string (⟨#[]⟩ : ByteArray), .int .i64 0, .slice none 0 0, .string (⟨#[]⟩ : ByteArray), .int .i64 0, .int .i64 0, .string (⟨#[]⟩ : ByteArray), .int .i64 0, .int .i64 0, .slice none 0 0, .int .i64 0, .int .i64 0, .int .i64 0, .bool false]) ?_ 0 _ rfl; (with_reducible repeat (first | refine blk_drewN ?_ _ | refine blk_drew ?_ | refine blk_alloc ?_ _)); exact BK174.out⟩, ⟨by repeat (first | (with_reducible first | exact HB.out | apply below_alloc | apply pw_below_drewN | apply below_drew1 | refine below_set ?_ GE174.out) | exact HB.out)⟩⟩
                · rw [if_neg c9] at H
                  have c9b0 : decide (((rd_T35 l0 x11_1).f2) < 0) = false := decide_eq_false c9
                  clear c9
                  (first | rw [c9b0] | (simp only [i64_w, i32_w]; rw [c9b0]) | skip)
                  by_cases c10 : ((rd_T35 l0 x11_1).f3) < ((rd_T35 l0 x11_1).f2)
                  · rw [if_pos c10] at H
                    have c10b0 : decide (((rd_T35 l0 x11_1).f3) < ((rd_T35 l0 x11_1).f2)) = true := decide_eq_true c10
                    clear c10
                    have H' := Aside0.mk H
                    clear H
                    have hcz11_0 : w7.cell? ⟨gb174, 0, none⟩ = some (.string (⟨#[]⟩ : ByteArray)) := (blk_cell BK174.out 0).trans rfl
                    have hcz11_1 : w7.cell? ⟨gb174, 1, none⟩ = some (.int .i64 0) := (blk_cell BK174.out 1).trans rfl
                    have hcz11_2 : w7.cell? ⟨gb174, 2, none⟩ = some (.slice none 0 0) := (blk_cell BK174.out 2).trans rfl
                    have hcz11_3 : w7.cell? ⟨gb174, 3, none⟩ = some (.string (⟨#[]⟩ : ByteArray)) := (blk_cell BK174.out 3).trans rfl
                    have hcz11_4 : w7.cell? ⟨gb174, 4, none⟩ = some (.int .i64 0) := (blk_cell BK174.out 4).trans rfl
                    have hcz11_5 : w7.cell? ⟨gb174, 5, none⟩ = some (.int .i64 0) := (blk_cell BK174.out 5).trans rfl
                    have hcz11_6 : w7.cell? ⟨gb174, 6, none⟩ = some (.string (⟨#[]⟩ : ByteArray)) := (blk_cell BK174.out 6).trans rfl
                    have hcz11_7 : w7.cell? ⟨gb174, 7, none⟩ = some (.int .i64 0) := (blk_cell BK174.out 7).trans rfl
                    have hcz11_8 : w7.cell? ⟨gb174, 8, none⟩ = some (.int .i64 0) := (blk_cell BK174.out 8).trans rfl
                    have hcz11_9 : w7.cell? ⟨gb174, 9, none⟩ = some (.slice none 0 0) := (blk_cell BK174.out 9).trans rfl
                    have hcz11_10 : w7.cell? ⟨gb174, 10, none⟩ = some (.int .i64 0) := (blk_cell BK174.out 10).trans rfl
                    have hcz11_11 : w7.cell? ⟨gb174, 11, none⟩ = some (.int .i64 0) := (blk_cell BK174.out 11).trans rfl
                    have hcz11_12 : w7.cell? ⟨gb174, 12, none⟩ = some (.int .i64 0) := (blk_cell BK174.out 12).trans rfl
                    have hcz11_13 : w7.cell? ⟨gb174, 13, none⟩ = some (.bool false) := (blk_cell BK174.out 13).trans rfl
                    have hfz11_0 := blk_frozen BK174.out 0
                    have hfz11_1 := blk_frozen BK174.out 1
                    have hfz11_2 := blk_frozen BK174.out 2
                    have hfz11_3 := blk_frozen BK174.out 3
                    have hfz11_4 := blk_frozen BK174.out 4
                    have hfz11_5 := blk_frozen BK174.out 5
                    have hfz11_6 := blk_frozen BK174.out 6
                    have hfz11_7 := blk_frozen BK174.out 7
                    have hfz11_8 := blk_frozen BK174.out 8
                    have hfz11_9 := blk_frozen BK174.out 9
                    have hfz11_10 := blk_frozen BK174.out 10
                    have hfz11_11 := blk_frozen BK174.out 11
                    have hfz11_12 := blk_frozen BK174.out 12
                    have hfz11_13 := blk_frozen BK174.out 13
                    go_wp2
                    go_meet
                    case rel => exact ⟨_, (decide (((rd_T35 l0 x11_1).f3) < ((rd_T35 l0 x11_1).f2))), (by first | rfl | (simp; done) | (simp [*]; done)), H', ⟨by have := HK1.out; first | omega | exact Nat.le_refl _⟩, ⟨by (with_reducible repeat (first | refine blk_drewN ?_ _ | refine blk_drew ?_ | refine blk_alloc ?_ _)); refine blk_put (cs := #[.string ((rd_T35 l0 x11_1).f0.f0), .int .i64 ((rd_T35 l0 x11_1).f0.f1), .slice A173_2 ((rd_T35 l0 x11_1).f0.f2).length c173_2, .string ((rd_T35 l0 x11_1).f0.f3), .int .i64 ((rd_T35 l0 x11_1).f0.f4), .int .i64 ((rd_T35 l0 x11_1).f0.f5), .string ((rd_T35 l0 x11_1).f1.f0), .int .i64 ((rd_T35 l0 x11_1).f1.f1), .int .i64 ((rd_T35 l0 x11_1).f1.f2), .slice A173_9 ((rd_T35 l0 x11_1).f1.f3).length c173_9, .int .i64 ((rd_T35 l0 x11_1).f1.f4), .int .i64 ((rd_T35 l0 x11_1).f2), .int .i64 ((rd_T35 l0 x11_1).f3), .bool false]) ?_ 13 _ rfl; (with_reducible repeat (first | refine blk_drewN ?_ _ | refine blk_drew ?_ | refine blk_alloc ?_ _)); refine blk_put (cs := #[.string ((rd_T35 l0 x11_1).f0.f0), .int .i64 ((rd_T35 l0 x11_1).f0.f1), .slice A173_2 ((rd_T35 l0 x11_1).f0.f2).length c173_2, .string ((rd_T35 l0 x11_1).f0.f3), .int .i64 ((rd_T35 l0 x11_1).f0.f4), .int .i64 ((rd_T35 l0 x11_1).f0.f5), .string ((rd_T35 l0 x11_1).f1.f0), .int .i64 ((rd_T35 l0 x11_1).f1.f1), .int .i64 ((rd_T35 l0 x11_1).f1.f2), .slice A173_9 ((rd_T35 l0 x11_1).f1.f3).length c173_9, .int .i64 ((rd_T35 l0 x11_1).f1.f4), .int .i64 ((rd_T35 l0 x11_1).f2), .int .i64 0, .bool false]) ?_ 12 _ rfl; (with_reducible repeat (first | refine blk_drewN ?_ _ | refine blk_drew ?_ | refine blk_alloc ?_ _)); refine blk_put (cs := #[.string ((rd_T35 l0 x11_1).f0.f0), .int .i64 ((rd_T35 l0 x11_1).f0.f1), .slice A173_2 ((rd_T35 l0 x11_1).f0.f2).length c173_2, .string ((rd_T35 l0 x11_1).f0.f3), .int .i64 ((rd_T35 l0 x11_1).f0.f4), .int .i64 ((rd_T35 l0 x11_1).f0.f5), .string ((rd_T35 l0 x11_1).f1.f0), .int .i64 ((rd_T35 l0 x11_1).f1.f1), .int .i64 ((rd_T35 l0 x11_1).f1.f2), .slice A173_9 ((rd_T35 l0 x11_1).f1.f3).length c173_9, .int .i64 ((rd_T35 l0 x11_1).f1.f4), .int .i64 0, .int .i64 0, .bool false]) ?_ 11 _ rfl; (with_reducible repeat (first | refine blk_drewN ?_ _ | refine blk_drew ?_ | refine blk_alloc ?_ _)); refine blk_put (cs := #[.string ((rd_T35 l0 x11_1).f0.f0), .int .i64 ((rd_T35 l0 x11_1).f0.f1), .slice A173_2 ((rd_T35 l0 x11_1).f0.f2).length c173_2, .string ((rd_T35 l0 x11_1).f0.f3), .int .i64 ((rd_T35 l0 x11_1).f0.f4), .int .i64 ((rd_T35 l0 x11_1).f0.f5), .string ((rd_T35 l0 x11_1).f1.f0), .int .i64 ((rd_T35 l0 x11_1).f1.f1), .int .i64 ((rd_T35 l0 x11_1).f1.f2), .slice A173_9 ((rd_T35 l0 x11_1).f1.f3).length c173_9, .int .i64 0, .int .i64 0, .int .i64 0, .bool false]) ?_ 10 _ rfl; (with_reducible repeat (first | refine blk_drewN ?_ _ | refine blk_drew ?_ | refine blk_alloc ?_ _)); refine blk_put (cs := #[.string ((rd_T35 l0 x11_1).f0.f0), .int .i64 ((rd_T35 l0 x11_1).f0.f1), .slice A173_2 ((rd_T35 l0 x11_1).f0.f2).length c173_2, .string ((rd_T35 l0 x11_1).f0.f3), .int .i64 ((rd_T35 l0 x11_1).f0.f4), .int .i64 ((rd_T35 l0 x11_1).f0.f5), .string ((rd_T35 l0 x11_1).f1.f0), .int .i64 ((rd_T35 l0 x11_1).f1.f1), .int .i64 ((rd_T35 l0 x11_1).f1.f2), .slice none 0 0, .int .i64 0, .int .i64 0, .int .i64 0, .bool false]) ?_ 9 _ rfl; (with_reducible repeat (first | refine blk_drewN ?_ _ | refine blk_drew ?_ | refine blk_alloc ?_ _)); refine blk_put (cs := #[.string ((rd_T35 l0 x11_1).f0.f0), .int .i64 ((rd_T35 l0 x11_1).f0.f1), .slice A173_2 ((rd_T35 l0 x11_1).f0.f2).length c173_2, .string ((rd_T35 l0 x11_1).f0.f3), .int .i64 ((rd_T35 l0 x11_1).f0.f4), .int .i64 ((rd_T35 l0 x11_1).f0.f5), .string ((rd_T35 l0 x11_1).f1.f0), .int .i64 ((rd_T35 l0 x11_1).f1.f1), .int .i64 0, .slice none 0 0, .int .i64 0, .int .i64 0, .int .i64 0, .bool false]) ?_ 8 _ rfl; (with_reducible repeat (first | refine blk_drewN ?_ _ | refine blk_drew ?_ | refine blk_alloc ?_ _)); refine blk_put (cs := #[.string ((rd_T35 l0 x11_1).f0.f0), .int .i64 ((rd_T35 l0 x11_1).f0.f1), .slice A173_2 ((rd_T35 l0 x11_1).f0.f2).length c173_2, .string ((rd_T35 l0 x11_1).f0.f3), .int .i64 ((rd_T35 l0 x11_1).f0.f4), .int .i64 ((rd_T35 l0 x11_1).f0.f5), .string ((rd_T35 l0 x11_1).f1.f0), .int .i64 0, .int .i64 0, .slice none 0 0, .int .i64 0, .int .i64 0, .int .i64 0, .bool false]) ?_ 7 _ rfl; (with_reducible repeat (first | refine blk_drewN ?_ _ | refine blk_drew ?_ | refine blk_alloc ?_ _)); refine blk_put (cs := #[.string ((rd_T35 l0 x11_1).f0.f0), .int .i64 ((rd_T35 l0 x11_1).f0.f1), .slice A173_2 ((rd_T35 l0 x11_1).f0.f2).length c173_2, .string ((rd_T35 l0 x11_1).f0.f3), .int .i64 ((rd_T35 l0 x11_1).f0.f4), .int .i64 ((rd_T35 l0 x11_1).f0.f5), .string (⟨#[]⟩ : ByteArray), .int .i64 0, .int .i64 0, .slice none 0 0, .int .i64 0, .int .i64 0, .int .i64 0, .bool false]) ?_ 6 _ rfl; (with_reducible repeat (first | refine blk_drewN ?_ _ | refine blk_drew ?_ | refine blk_alloc ?_ _)); refine blk_put (cs := #[.string ((rd_T35 l0 x11_1).f0.f0), .int .i64 ((rd_T35 l0 x11_1).f0.f1), .slice A173_2 ((rd_T35 l0 x11_1).f0.f2).length c173_2, .string ((rd_T35 l0 x11_1).f0.f3), .int .i64 ((rd_T35 l0 x11_1).f0.f4), .int .i64 0, .string (⟨#[]⟩ : ByteArray), .int .i64 0, .int .i64 0, .slice none 0 0, .int .i64 0, .int .i64 0, .int .i64 0, .bool false]) ?_ 5 _ rfl; (with_reducible repeat (first | refine blk_drewN ?_ _ | refine blk_drew ?_ | refine blk_alloc ?_ _)); refine blk_put (cs := #[.string ((rd_T35 l0 x11_1).f0.f0), .int .i64 ((rd_T35 l0 x11_1).f0.f1), .slice A173_2 ((rd_T35 l0 x11_1).f0.f2).length c173_2, .string ((rd_T35 l0 x11_1).f0.f3), .int .i64 0, .int .i64 0, .string (⟨#[]⟩ : ByteArray), .int .i64 0, .int .i64 0, .slice none 0 0, .int .i64 0, .int .i64 0, .int .i64 0, .bool false]) ?_ 4 _ rfl; (with_reducible repeat (first | refine blk_drewN ?_ _ | refine blk_drew ?_ | refine blk_alloc ?_ _)); refine blk_put (cs := #[.string ((rd_T35 l0 x11_1).f0.f0), .int .i64 ((rd_T35 l0 x11_1).f0.f1), .slice A173_2 ((rd_T35 l0 x11_1).f0.f2).length c173_2, .string (⟨#[]⟩ : ByteArray), .int .i64 0, .int .i64 0, .string (⟨#[]⟩ : ByteArray), .int .i64 0, .int .i64 0, .slice none 0 0, .int .i64 0, .int .i64 0, .int .i64 0, .bool false]) ?_ 3 _ rfl; (with_reducible repeat (first | refine blk_drewN ?_ _ | refine blk_drew ?_ | refine blk_alloc ?_ _)); refine blk_put (cs := #[.string ((rd_T35 l0 x11_1).f0.f0), .int .i64 ((rd_T35 l0 x11_1).f0.f1), .slice none 0 0, .string (⟨#[]⟩ : ByteArray), .int .i64 0, .int .i64 0, .string (⟨#[]⟩ : ByteArray), .int .i64 0, .int .i64 0, .slice none 0 0, .int .i64 0, .int .i64 0, .int .i64 0, .bool false]) ?_ 2 _ rfl; (with_reducible repeat (first | refine blk_drewN ?_ _ | refine blk_drew ?_ | refine blk_alloc ?_ _)); refine blk_put (cs := #[.string ((rd_T35 l0 x11_1).f0.f0), .int .i64 0, .slice none 0 0, .string (⟨#[]⟩ : ByteArray), .int .i64 0, .int .i64 0, .string (⟨#[]⟩ : ByteArray), .int .i64 0, .int .i64 0, .slice none 0 0, .int .i64 0, .int .i64 0, .int .i64 0, .bool false]) ?_ 1 _ rfl; (with_reducible repeat (first | refine blk_drewN ?_ _ | refine blk_drew ?_ | refine blk_alloc ?_ _)); refine blk_put (cs := #[.string (⟨#[]⟩ : ByteArray), .int .i64 0, .slice none 0 0, .string (⟨#[]⟩ : ByteArray), .int .i64 0, .int .i64 0, .string (⟨#[]⟩ : ByteArray), .int .i64 0, .int .i64 0, .slice none 0 0, .int .i64 0, .int .i64 0, .int .i64 0, .bool false]) ?_ 0 _ rfl; (with_reducible repeat (first | refine blk_drewN ?_ _ | refine blk_drew ?_ | refine blk_alloc ?_ _)); exact BK174.out⟩, ⟨by repeat (first | (with_reducible first | exact HB.out | apply below_alloc | apply pw_below_drewN | apply below_drew1 | refine below_set ?_ GE174.out) | exact HB.out)⟩⟩
                  · rw [if_neg c10] at H
                    have c10b0 : decide (((rd_T35 l0 x11_1).f3) < ((rd_T35 l0 x11_1).f2)) = false := decide_eq_false c10
                    clear c10
                    have H' := Aside0.mk H
                    clear H
                    have hcz12_0 : w7.cell? ⟨gb174, 0, none⟩ = some (.string (⟨#[]⟩ : ByteArray)) := (blk_cell BK174.out 0).trans rfl
                    have hcz12_1 : w7.cell? ⟨gb174, 1, none⟩ = some (.int .i64 0) := (blk_cell BK174.out 1).trans rfl
                    have hcz12_2 : w7.cell? ⟨gb174, 2, none⟩ = some (.slice none 0 0) := (blk_cell BK174.out 2).trans rfl
                    have hcz12_3 : w7.cell? ⟨gb174, 3, none⟩ = some (.string (⟨#[]⟩ : ByteArray)) := (blk_cell BK174.out 3).trans rfl
                    have hcz12_4 : w7.cell? ⟨gb174, 4, none⟩ = some (.int .i64 0) := (blk_cell BK174.out 4).trans rfl
                    have hcz12_5 : w7.cell? ⟨gb174, 5, none⟩ = some (.int .i64 0) := (blk_cell BK174.out 5).trans rfl
                    have hcz12_6 : w7.cell? ⟨gb174, 6, none⟩ = some (.string (⟨#[]⟩ : ByteArray)) := (blk_cell BK174.out 6).trans rfl
                    have hcz12_7 : w7.cell? ⟨gb174, 7, none⟩ = some (.int .i64 0) := (blk_cell BK174.out 7).trans rfl
                    have hcz12_8 : w7.cell? ⟨gb174, 8, none⟩ = some (.int .i64 0) := (blk_cell BK174.out 8).trans rfl
                    have hcz12_9 : w7.cell? ⟨gb174, 9, none⟩ = some (.slice none 0 0) := (blk_cell BK174.out 9).trans rfl
                    have hcz12_10 : w7.cell? ⟨gb174, 10, none⟩ = some (.int .i64 0) := (blk_cell BK174.out 10).trans rfl
                    have hcz12_11 : w7.cell? ⟨gb174, 11, none⟩ = some (.int .i64 0) := (blk_cell BK174.out 11).trans rfl
                    have hcz12_12 : w7.cell? ⟨gb174, 12, none⟩ = some (.int .i64 0) := (blk_cell BK174.out 12).trans rfl
                    have hcz12_13 : w7.cell? ⟨gb174, 13, none⟩ = some (.bool false) := (blk_cell BK174.out 13).trans rfl
                    have hfz12_0 := blk_frozen BK174.out 0
                    have hfz12_1 := blk_frozen BK174.out 1
                    have hfz12_2 := blk_frozen BK174.out 2
                    have hfz12_3 := blk_frozen BK174.out 3
                    have hfz12_4 := blk_frozen BK174.out 4
                    have hfz12_5 := blk_frozen BK174.out 5
                    have hfz12_6 := blk_frozen BK174.out 6
                    have hfz12_7 := blk_frozen BK174.out 7
                    have hfz12_8 := blk_frozen BK174.out 8
                    have hfz12_9 := blk_frozen BK174.out 9
                    have hfz12_10 := blk_frozen BK174.out 10
                    have hfz12_11 := blk_frozen BK174.out 11
                    have hfz12_12 := blk_frozen BK174.out 12
                    have hfz12_13 := blk_frozen BK174.out 13
                    go_wp2
                    go_meet
                    case rel => exact ⟨_, (decide (((rd_T35 l0 x11_1).f3) > 4611686018427387904)), (by first | rfl | (simp; done) | (simp [*]; done)), H', ⟨by have := HK1.out; first | omega | exact Nat.le_refl _⟩, ⟨by (with_reducible repeat (first | refine blk_drewN ?_ _ | refine blk_drew ?_ | refine blk_alloc ?_ _)); refine blk_put (cs := #[.string ((rd_T35 l0 x11_1).f0.f0), .int .i64 ((rd_T35 l0 x11_1).f0.f1), .slice A173_2 ((rd_T35 l0 x11_1).f0.f2).length c173_2, .string ((rd_T35 l0 x11_1).f0.f3), .int .i64 ((rd_T35 l0 x11_1).f0.f4), .int .i64 ((rd_T35 l0 x11_1).f0.f5), .string ((rd_T35 l0 x11_1).f1.f0), .int .i64 ((rd_T35 l0 x11_1).f1.f1), .int .i64 ((rd_T35 l0 x11_1).f1.f2), .slice A173_9 ((rd_T35 l0 x11_1).f1.f3).length c173_9, .int .i64 ((rd_T35 l0 x11_1).f1.f4), .int .i64 ((rd_T35 l0 x11_1).f2), .int .i64 ((rd_T35 l0 x11_1).f3), .bool false]) ?_ 13 _ rfl; (with_reducible repeat (first | refine blk_drewN ?_ _ | refine blk_drew ?_ | refine blk_alloc ?_ _)); refine blk_put (cs := #[.string ((rd_T35 l0 x11_1).f0.f0), .int .i64 ((rd_T35 l0 x11_1).f0.f1), .slice A173_2 ((rd_T35 l0 x11_1).f0.f2).length c173_2, .string ((rd_T35 l0 x11_1).f0.f3), .int .i64 ((rd_T35 l0 x11_1).f0.f4), .int .i64 ((rd_T35 l0 x11_1).f0.f5), .string ((rd_T35 l0 x11_1).f1.f0), .int .i64 ((rd_T35 l0 x11_1).f1.f1), .int .i64 ((rd_T35 l0 x11_1).f1.f2), .slice A173_9 ((rd_T35 l0 x11_1).f1.f3).length c173_9, .int .i64 ((rd_T35 l0 x11_1).f1.f4), .int .i64 ((rd_T35 l0 x11_1).f2), .int .i64 0, .bool false]) ?_ 12 _ rfl; (with_reducible repeat (first | refine blk_drewN ?_ _ | refine blk_drew ?_ | refine blk_alloc ?_ _)); refine blk_put (cs := #[.string ((rd_T35 l0 x11_1).f0.f0), .int .i64 ((rd_T35 l0 x11_1).f0.f1), .slice A173_2 ((rd_T35 l0 x11_1).f0.f2).length c173_2, .string ((rd_T35 l0 x11_1).f0.f3), .int .i64 ((rd_T35 l0 x11_1).f0.f4), .int .i64 ((rd_T35 l0 x11_1).f0.f5), .string ((rd_T35 l0 x11_1).f1.f0), .int .i64 ((rd_T35 l0 x11_1).f1.f1), .int .i64 ((rd_T35 l0 x11_1).f1.f2), .slice A173_9 ((rd_T35 l0 x11_1).f1.f3).length c173_9, .int .i64 ((rd_T35 l0 x11_1).f1.f4), .int .i64 0, .int .i64 0, .bool false]) ?_ 11 _ rfl; (with_reducible repeat (first | refine blk_drewN ?_ _ | refine blk_drew ?_ | refine blk_alloc ?_ _)); refine blk_put (cs := #[.string ((rd_T35 l0 x11_1).f0.f0), .int .i64 ((rd_T35 l0 x11_1).f0.f1), .slice A173_2 ((rd_T35 l0 x11_1).f0.f2).length c173_2, .string ((rd_T35 l0 x11_1).f0.f3), .int .i64 ((rd_T35 l0 x11_1).f0.f4), .int .i64 ((rd_T35 l0 x11_1).f0.f5), .string ((rd_T35 l0 x11_1).f1.f0), .int .i64 ((rd_T35 l0 x11_1).f1.f1), .int .i64 ((rd_T35 l0 x11_1).f1.f2), .slice A173_9 ((rd_T35 l0 x11_1).f1.f3).length c173_9, .int .i64 0, .int .i64 0, .int .i64 0, .bool false]) ?_ 10 _ rfl; (with_reducible repeat (first | refine blk_drewN ?_ _ | refine blk_drew ?_ | refine blk_alloc ?_ _)); refine blk_put (cs := #[.string ((rd_T35 l0 x11_1).f0.f0), .int .i64 ((rd_T35 l0 x11_1).f0.f1), .slice A173_2 ((rd_T35 l0 x11_1).f0.f2).length c173_2, .string ((rd_T35 l0 x11_1).f0.f3), .int .i64 ((rd_T35 l0 x11_1).f0.f4), .int .i64 ((rd_T35 l0 x11_1).f0.f5), .string ((rd_T35 l0 x11_1).f1.f0), .int .i64 ((rd_T35 l0 x11_1).f1.f1), .int .i64 ((rd_T35 l0 x11_1).f1.f2), .slice none 0 0, .int .i64 0, .int .i64 0, .int .i64 0, .bool false]) ?_ 9 _ rfl; (with_reducible repeat (first | refine blk_drewN ?_ _ | refine blk_drew ?_ | refine blk_alloc ?_ _)); refine blk_put (cs := #[.string ((rd_T35 l0 x11_1).f0.f0), .int .i64 ((rd_T35 l0 x11_1).f0.f1), .slice A173_2 ((rd_T35 l0 x11_1).f0.f2).length c173_2, .string ((rd_T35 l0 x11_1).f0.f3), .int .i64 ((rd_T35 l0 x11_1).f0.f4), .int .i64 ((rd_T35 l0 x11_1).f0.f5), .string ((rd_T35 l0 x11_1).f1.f0), .int .i64 ((rd_T35 l0 x11_1).f1.f1), .int .i64 0, .slice none 0 0, .int .i64 0, .int .i64 0, .int .i64 0, .bool false]) ?_ 8 _ rfl; (with_reducible repeat (first | refine blk_drewN ?_ _ | refine blk_drew ?_ | refine blk_alloc ?_ _)); refine blk_put (cs := #[.string ((rd_T35 l0 x11_1).f0.f0), .int .i64 ((rd_T35 l0 x11_1).f0.f1), .slice A173_2 ((rd_T35 l0 x11_1).f0.f2).length c173_2, .string ((rd_T35 l0 x11_1).f0.f3), .int .i64 ((rd_T35 l0 x11_1).f0.f4), .int .i64 ((rd_T35 l0 x11_1).f0.f5), .string ((rd_T35 l0 x11_1).f1.f0), .int .i64 0, .int .i64 0, .slice none 0 0, .int .i64 0, .int .i64 0, .int .i64 0, .bool false]) ?_ 7 _ rfl; (with_reducible repeat (first | refine blk_drewN ?_ _ | refine blk_drew ?_ | refine blk_alloc ?_ _)); refine blk_put (cs := #[.string ((rd_T35 l0 x11_1).f0.f0), .int .i64 ((rd_T35 l0 x11_1).f0.f1), .slice A173_2 ((rd_T35 l0 x11_1).f0.f2).length c173_2, .string ((rd_T35 l0 x11_1).f0.f3), .int .i64 ((rd_T35 l0 x11_1).f0.f4), .int .i64 ((rd_T35 l0 x11_1).f0.f5), .string (⟨#[]⟩ : ByteArray), .int .i64 0, .int .i64 0, .slice none 0 0, .int .i64 0, .int .i64 0, .int .i64 0, .bool false]) ?_ 6 _ rfl; (with_reducible repeat (first | refine blk_drewN ?_ _ | refine blk_drew ?_ | refine blk_alloc ?_ _)); refine blk_put (cs := #[.string ((rd_T35 l0 x11_1).f0.f0), .int .i64 ((rd_T35 l0 x11_1).f0.f1), .slice A173_2 ((rd_T35 l0 x11_1).f0.f2).length c173_2, .string ((rd_T35 l0 x11_1).f0.f3), .int .i64 ((rd_T35 l0 x11_1).f0.f4), .int .i64 0, .string (⟨#[]⟩ : ByteArray), .int .i64 0, .int .i64 0, .slice none 0 0, .int .i64 0, .int .i64 0, .int .i64 0, .bool false]) ?_ 5 _ rfl; (with_reducible repeat (first | refine blk_drewN ?_ _ | refine blk_drew ?_ | refine blk_alloc ?_ _)); refine blk_put (cs := #[.string ((rd_T35 l0 x11_1).f0.f0), .int .i64 ((rd_T35 l0 x11_1).f0.f1), .slice A173_2 ((rd_T35 l0 x11_1).f0.f2).length c173_2, .string ((rd_T35 l0 x11_1).f0.f3), .int .i64 0, .int .i64 0, .string (⟨#[]⟩ : ByteArray), .int .i64 0, .int .i64 0, .slice none 0 0, .int .i64 0, .int .i64 0, .int .i64 0, .bool false]) ?_ 4 _ rfl; (with_reducible repeat (first | refine blk_drewN ?_ _ | refine blk_drew ?_ | refine blk_alloc ?_ _)); refine blk_put (cs := #[.string ((rd_T35 l0 x11_1).f0.f0), .int .i64 ((rd_T35 l0 x11_1).f0.f1), .slice A173_2 ((rd_T35 l0 x11_1).f0.f2).length c173_2, .string (⟨#[]⟩ : ByteArray), .int .i64 0, .int .i64 0, .string (⟨#[]⟩ : ByteArray), .int .i64 0, .int .i64 0, .slice none 0 0, .int .i64 0, .int .i64 0, .int .i64 0, .bool false]) ?_ 3 _ rfl; (with_reducible repeat (first | refine blk_drewN ?_ _ | refine blk_drew ?_ | refine blk_alloc ?_ _)); refine blk_put (cs := #[.string ((rd_T35 l0 x11_1).f0.f0), .int .i64 ((rd_T35 l0 x11_1).f0.f1), .slice none 0 0, .string (⟨#[]⟩ : ByteArray), .int .i64 0, .int .i64 0, .string (⟨#[]⟩ : ByteArray), .int .i64 0, .int .i64 0, .slice none 0 0, .int .i64 0, .int .i64 0, .int .i64 0, .bool false]) ?_ 2 _ rfl; (with_reducible repeat (first | refine blk_drewN ?_ _ | refine blk_drew ?_ | refine blk_alloc ?_ _)); refine blk_put (cs := #[.string ((rd_T35 l0 x11_1).f0.f0), .int .i64 0, .slice none 0 0, .string (⟨#[]⟩ : ByteArray), .int .i64 0, .int .i64 0, .string (⟨#[]⟩ : ByteArray), .int .i64 0, .int .i64 0, .slice none 0 0, .int .i64 0, .int .i64 0, .int .i64 0, .bool false]) ?_ 1 _ rfl; (with_reducible repeat (first | refine blk_drewN ?_ _ | refine blk_drew ?_ | refine blk_alloc ?_ _)); refine blk_put (cs := #[.string (⟨#[]⟩ : ByteArray), .int .i64 0, .slice none 0 0, .string (⟨#[]⟩ : ByteArray), .int .i64 0, .int .i64 0, .string (⟨#[]⟩ : ByteArray), .int .i64 0, .int .i64 0, .slice none 0 0, .int .i64 0, .int .i64 0, .int .i64 0, .bool false]) ?_ 0 _ rfl; (with_reducible repeat (first | refine blk_drewN ?_ _ | refine blk_drew ?_ | refine blk_alloc ?_ _)); exact BK174.out⟩, ⟨by repeat (first | (with_reducible first | exact HB.out | apply below_alloc | apply pw_below_drewN | apply below_drew1 | refine below_set ?_ GE174.out) | exact HB.out)⟩⟩
              case rest =>
                clear HC6
                try clear c1
                try clear p1
                try clear q1
                try clear hx1
                try clear c2
                try clear c2b0
                try clear c2b1
                try clear p2
                try clear c3
                try clear c3b0
                try clear c4
                try clear c4b0
                try clear c5
                try clear c5b0
                try clear c7
                try clear c9
                try clear c9b0
                try clear c10
                try clear c10b0
                try clear hcz11_0
                try clear hcz11_1
                try clear hcz11_10
                try clear hcz11_11
                try clear hcz11_12
                try clear hcz11_13
                try clear hcz11_2
                try clear hcz11_3
                try clear hcz11_4
                try clear hcz11_5
                try clear hcz11_6
                try clear hcz11_7
                try clear hcz11_8
                try clear hcz11_9
                try clear hcz12_0
                try clear hcz12_1
                try clear hcz12_10
                try clear hcz12_11
                try clear hcz12_12
                try clear hcz12_13
                try clear hcz12_2
                try clear hcz12_3
                try clear hcz12_4
                try clear hcz12_5
                try clear hcz12_6
                try clear hcz12_7
                try clear hcz12_8
                try clear hcz12_9
                try clear hcz8_0
                try clear hcz8_1
                try clear hcz8_10
                try clear hcz8_11
                try clear hcz8_12
                try clear hcz8_13
                try clear hcz8_2
                try clear hcz8_3
                try clear hcz8_4
                try clear hcz8_5
                try clear hcz8_6
                try clear hcz8_7
                try clear hcz8_8
                try clear hcz8_9
                try clear hfz11_0
                try clear hfz11_1
                try clear hfz11_10
                try clear hfz11_11
                try clear hfz11_12
                try clear hfz11_13
                try clear hfz11_2
                try clear hfz11_3
                try clear hfz11_4
                try clear hfz11_5
                try clear hfz11_6
                try clear hfz11_7
                try clear hfz11_8
                try clear hfz11_9
                try clear hfz12_0
                try clear hfz12_1
                try clear hfz12_10
                try clear hfz12_11
                try clear hfz12_12
                try clear hfz12_13
                try clear hfz12_2
                try clear hfz12_3
                try clear hfz12_4
                try clear hfz12_5
                try clear hfz12_6
                try clear hfz12_7
                try clear hfz12_8
                try clear hfz12_9
                try clear hfz8_0
                try clear hfz8_1
                try clear hfz8_10
                try clear hfz8_11
                try clear hfz8_12
                try clear hfz8_13
                try clear hfz8_2
                try clear hfz8_3
                try clear hfz8_4
                try clear hfz8_5
                try clear hfz8_6
                try clear hfz8_7
                try clear hfz8_8
                try clear hfz8_9
                try clear hx173_0
                try clear hx173_1
                try clear hx173_10
                try clear hx173_11
                try clear hx173_12
                try clear hx173_13
                try clear hx173_2
                try clear hx173_3
                try clear hx173_4
                try clear hx173_5
                try clear hx173_6
                try clear hx173_7
                try clear hx173_8
                try clear hx173_9
                try clear p173
                try clear p2
                try clear q173
                obtain ⟨kq, x16_5, rfl, HA, HJ5, BK174, HB⟩ := hcut
                cases kq with
                | zero => exact absurd HA.out (by simp [lin_Check.j1])
                | succ kj5 =>
                  have H := HA.out
                  clear HA
                  simp only [lin_Check.j1] at H
                  by_cases c13 : x16_5 = true
                  · subst c13
                    have H1 : (some (160, x11_1)) = some (r1, r2) := by rw [if_pos rfl] at H; exact H
                    clear H
                    have H := H1
                    clear H1
                    simp only [Option.some.injEq, Prod.mk.injEq] at H
                    obtain ⟨rfl, rfl⟩ := H
                    go_wp2
                    go_ret2
                    exact ⟨by first | rfl | (simp [errW_none, errW_some] <;> rfl) | (simp [*, errW_none, errW_some] <;> rfl), by repeat (first | (with_reducible first | exact HB.out | apply below_alloc | apply pw_below_drewN | apply below_drew1 | refine below_set ?_ GE174.out) | exact HB.out)⟩
                  · replace c13 := Bool.eq_false_iff.mpr c13
                    subst c13
                    have H1 : (if ((rd_T35 l0 x11_1).f4) = true then ((lin_same.f kj5 ((rd_T35 l0 x11_1).f1.f0) ((rd_T35 l0 x11_1).f1.f1) ((rd_T35 l0 x11_1).f1.f2) ((rd_T35 l0 x11_1).f1.f3) ((rd_T35 l0 x11_1).f1.f4) (⟨#[]⟩ : ByteArray) 0 0 ([] : List (S42)) 0).bind fun t175 => (if t175 = true then (lin_Check.l0 kj5 l0 (l0.length : Int) (wrap64 (x11_1 + 1))) else (some (161, x11_1)))) else (lin_Check.l0 kj5 l0 (l0.length : Int) (wrap64 (x11_1 + 1)))) = some (r1, r2) := by rw [if_neg (show ¬ (false = true) by decide)] at H; exact H
                    clear H
                    have H := H1
                    clear H1
                    by_cases c14 : ((rd_T35 l0 x11_1).f4) = true
                    · rw [if_pos c14] at H
                      have c14b0 : ((rd_T35 l0 x11_1).f4) = true := c14
                      clear c14
                      replace H := Option.bind_eq_some_iff.mp H
                      obtain ⟨t175, A150, H⟩ := H
                      replace H : (if t175 = true then (lin_Check.l0 kj5 l0 (l0.length : Int) (wrap64 (x11_1 + 1))) else (some (161, x11_1))) = some (r1, r2) := H
                      have A15 := Aside0.mk A150
                      clear A150
                      by_cases c16 : t175 = true
                      · subst c16
                        have H1 : (lin_Check.l0 kj5 l0 (l0.length : Int) (wrap64 (x11_1 + 1))) = some (r1, r2) := by rw [if_pos rfl] at H; exact H
                        clear H
                        have H := H1
                        clear H1
                        have H' := Aside0.mk H
                        clear H
                        have hcz17_0 : wc.cell? ⟨gb174, 0, none⟩ = some (.string ((rd_T35 l0 x11_1).f0.f0)) := (blk_cell BK174.out 0).trans rfl
                        have hcz17_1 : wc.cell? ⟨gb174, 1, none⟩ = some (.int .i64 ((rd_T35 l0 x11_1).f0.f1)) := (blk_cell BK174.out 1).trans rfl
                        have hcz17_2 : wc.cell? ⟨gb174, 2, none⟩ = some (.slice A173_2 ((rd_T35 l0 x11_1).f0.f2).length c173_2) := (blk_cell BK174.out 2).trans rfl
                        have hcz17_3 : wc.cell? ⟨gb174, 3, none⟩ = some (.string ((rd_T35 l0 x11_1).f0.f3)) := (blk_cell BK174.out 3).trans rfl
                        have hcz17_4 : wc.cell? ⟨gb174, 4, none⟩ = some (.int .i64 ((rd_T35 l0 x11_1).f0.f4)) := (blk_cell BK174.out 4).trans rfl
                        have hcz17_5 : wc.cell? ⟨gb174, 5, none⟩ = some (.int .i64 ((rd_T35 l0 x11_1).f0.f5)) := (blk_cell BK174.out 5).trans rfl
                        have hcz17_6 : wc.cell? ⟨gb174, 6, none⟩ = some (.string ((rd_T35 l0 x11_1).f1.f0)) := (blk_cell BK174.out 6).trans rfl
                        have hcz17_7 : wc.cell? ⟨gb174, 7, none⟩ = some (.int .i64 ((rd_T35 l0 x11_1).f1.f1)) := (blk_cell BK174.out 7).trans rfl
                        have hcz17_8 : wc.cell? ⟨gb174, 8, none⟩ = some (.int .i64 ((rd_T35 l0 x11_1).f1.f2)) := (blk_cell BK174.out 8).trans rfl
                        have hcz17_9 : wc.cell? ⟨gb174, 9, none⟩ = some (.slice A173_9 ((rd_T35 l0 x11_1).f1.f3).length c173_9) := (blk_cell BK174.out 9).trans rfl
                        have hcz17_10 : wc.cell? ⟨gb174, 10, none⟩ = some (.int .i64 ((rd_T35 l0 x11_1).f1.f4)) := (blk_cell BK174.out 10).trans rfl
                        have hcz17_11 : wc.cell? ⟨gb174, 11, none⟩ = some (.int .i64 ((rd_T35 l0 x11_1).f2)) := (blk_cell BK174.out 11).trans rfl
                        have hcz17_12 : wc.cell? ⟨gb174, 12, none⟩ = some (.int .i64 ((rd_T35 l0 x11_1).f3)) := (blk_cell BK174.out 12).trans rfl
                        have hcz17_13 : wc.cell? ⟨gb174, 13, none⟩ = some (.bool ((rd_T35 l0 x11_1).f4)) := (blk_cell BK174.out 13).trans rfl
                        have hfz17_0 := blk_frozen BK174.out 0
                        have hfz17_1 := blk_frozen BK174.out 1
                        have hfz17_2 := blk_frozen BK174.out 2
                        have hfz17_3 := blk_frozen BK174.out 3
                        have hfz17_4 := blk_frozen BK174.out 4
                        have hfz17_5 := blk_frozen BK174.out 5
                        have hfz17_6 := blk_frozen BK174.out 6
                        have hfz17_7 := blk_frozen BK174.out 7
                        have hfz17_8 := blk_frozen BK174.out 8
                        have hfz17_9 := blk_frozen BK174.out 9
                        have hfz17_10 := blk_frozen BK174.out 10
                        have hfz17_11 := blk_frozen BK174.out 11
                        have hfz17_12 := blk_frozen BK174.out 12
                        have hfz17_13 := blk_frozen BK174.out 13
                        go_wp2_with (first | (go_at_call 18; (refine (lin_same.calls kj5 ((rd_T35 l0 x11_1).f1.f0) ((rd_T35 l0 x11_1).f1.f1) ((rd_T35 l0 x11_1).f1.f2) _ _ ((rd_T35 l0 x11_1).f1.f3) ((rd_T35 l0 x11_1).f1.f4) (⟨#[]⟩ : ByteArray) 0 0 _ _ ([] : List (S42)) 0 true _ ?side1 ?side2 ?side3 ?side4 A15.out).mono ?_); (case side1 => repeat (first | exact (Kd.C_below HR173_9.out HB.out) | (with_reducible refine Kd.C_alloc ?_ _) | (with_reducible refine Kd.C_drewN ?_ _) | (with_reducible refine Kd.C_drew ?_))); (case side2 => exact HC173_9.out); (case side3 => exact Kd.C_nil _ _); (case side4 => exact Nat.le_refl _); rintro e w18 ⟨rfl, hb⟩; have n0_ := Aside0.mk (blk_below (g := gb174) (o := .cells #[.string ((rd_T35 l0 x11_1).f0.f0), .int .i64 ((rd_T35 l0 x11_1).f0.f1), .slice A173_2 ((rd_T35 l0 x11_1).f0.f2).length c173_2, .string ((rd_T35 l0 x11_1).f0.f3), .int .i64 ((rd_T35 l0 x11_1).f0.f4), .int .i64 ((rd_T35 l0 x11_1).f0.f5), .string ((rd_T35 l0 x11_1).f1.f0), .int .i64 ((rd_T35 l0 x11_1).f1.f1), .int .i64 ((rd_T35 l0 x11_1).f1.f2), .slice A173_9 ((rd_T35 l0 x11_1).f1.f3).length c173_9, .int .i64 ((rd_T35 l0 x11_1).f1.f4), .int .i64 ((rd_T35 l0 x11_1).f2), .int .i64 ((rd_T35 l0 x11_1).f3), .bool ((rd_T35 l0 x11_1).f4)] 35 (0, 0)) (by (with_reducible repeat (first | refine blk_drewN ?_ _ | refine blk_drew ?_ | refine blk_alloc ?_ _)); exact BK174.out) hb); have n1_ := Aside0.mk (below_step (by repeat (first | (with_reducible first | exact HB.out | apply below_alloc | apply pw_below_drewN | apply below_drew1 | refine below_set ?_ GE174.out) | exact HB.out)) hb); clear BK174; clear HB; have BK174 := n0_; have HB := n1_; clear n0_ n1_; (try clear hb); (try clear hb2); (try clear hk); (try clear hi)))
                        go_roundg kj5
                        case measure => have := HK1.out; have := HJ5.out; omega
                        case rel => exact ⟨(wrap64 (x11_1 + 1)), (by first | rfl | (simp; done) | (simp [*]; done)), H', ⟨by have := HK1.out; have := HJ5.out; omega⟩, ⟨by repeat (first | (with_reducible first | exact HB.out | apply below_alloc | apply pw_below_drewN | apply below_drew1 | refine below_set ?_ GE174.out) | exact HB.out)⟩⟩
                      · replace c16 := Bool.eq_false_iff.mpr c16
                        subst c16
                        have H1 : (some (161, x11_1)) = some (r1, r2) := by rw [if_neg (show ¬ (false = true) by decide)] at H; exact H
                        clear H
                        have H := H1
                        clear H1
                        simp only [Option.some.injEq, Prod.mk.injEq] at H
                        obtain ⟨rfl, rfl⟩ := H
                        have hcz19_0 : wc.cell? ⟨gb174, 0, none⟩ = some (.string ((rd_T35 l0 x11_1).f0.f0)) := (blk_cell BK174.out 0).trans rfl
                        have hcz19_1 : wc.cell? ⟨gb174, 1, none⟩ = some (.int .i64 ((rd_T35 l0 x11_1).f0.f1)) := (blk_cell BK174.out 1).trans rfl
                        have hcz19_2 : wc.cell? ⟨gb174, 2, none⟩ = some (.slice A173_2 ((rd_T35 l0 x11_1).f0.f2).length c173_2) := (blk_cell BK174.out 2).trans rfl
                        have hcz19_3 : wc.cell? ⟨gb174, 3, none⟩ = some (.string ((rd_T35 l0 x11_1).f0.f3)) := (blk_cell BK174.out 3).trans rfl
                        have hcz19_4 : wc.cell? ⟨gb174, 4, none⟩ = some (.int .i64 ((rd_T35 l0 x11_1).f0.f4)) := (blk_cell BK174.out 4).trans rfl
                        have hcz19_5 : wc.cell? ⟨gb174, 5, none⟩ = some (.int .i64 ((rd_T35 l0 x11_1).f0.f5)) := (blk_cell BK174.out 5).trans rfl
                        have hcz19_6 : wc.cell? ⟨gb174, 6, none⟩ = some (.string ((rd_T35 l0 x11_1).f1.f0)) := (blk_cell BK174.out 6).trans rfl
                        have hcz19_7 : wc.cell? ⟨gb174, 7, none⟩ = some (.int .i64 ((rd_T35 l0 x11_1).f1.f1)) := (blk_cell BK174.out 7).trans rfl
                        have hcz19_8 : wc.cell? ⟨gb174, 8, none⟩ = some (.int .i64 ((rd_T35 l0 x11_1).f1.f2)) := (blk_cell BK174.out 8).trans rfl
                        have hcz19_9 : wc.cell? ⟨gb174, 9, none⟩ = some (.slice A173_9 ((rd_T35 l0 x11_1).f1.f3).length c173_9) := (blk_cell BK174.out 9).trans rfl
                        have hcz19_10 : wc.cell? ⟨gb174, 10, none⟩ = some (.int .i64 ((rd_T35 l0 x11_1).f1.f4)) := (blk_cell BK174.out 10).trans rfl
                        have hcz19_11 : wc.cell? ⟨gb174, 11, none⟩ = some (.int .i64 ((rd_T35 l0 x11_1).f2)) := (blk_cell BK174.out 11).trans rfl
                        have hcz19_12 : wc.cell? ⟨gb174, 12, none⟩ = some (.int .i64 ((rd_T35 l0 x11_1).f3)) := (blk_cell BK174.out 12).trans rfl
                        have hcz19_13 : wc.cell? ⟨gb174, 13, none⟩ = some (.bool ((rd_T35 l0 x11_1).f4)) := (blk_cell BK174.out 13).trans rfl
                        have hfz19_0 := blk_frozen BK174.out 0
                        have hfz19_1 := blk_frozen BK174.out 1
                        have hfz19_2 := blk_frozen BK174.out 2
                        have hfz19_3 := blk_frozen BK174.out 3
                        have hfz19_4 := blk_frozen BK174.out 4
                        have hfz19_5 := blk_frozen BK174.out 5
                        have hfz19_6 := blk_frozen BK174.out 6
                        have hfz19_7 := blk_frozen BK174.out 7
                        have hfz19_8 := blk_frozen BK174.out 8
                        have hfz19_9 := blk_frozen BK174.out 9
                        have hfz19_10 := blk_frozen BK174.out 10
                        have hfz19_11 := blk_frozen BK174.out 11
                        have hfz19_12 := blk_frozen BK174.out 12
                        have hfz19_13 := blk_frozen BK174.out 13
                        go_wp2_with (first | (go_at_call 18; (refine (lin_same.calls kj5 ((rd_T35 l0 x11_1).f1.f0) ((rd_T35 l0 x11_1).f1.f1) ((rd_T35 l0 x11_1).f1.f2) _ _ ((rd_T35 l0 x11_1).f1.f3) ((rd_T35 l0 x11_1).f1.f4) (⟨#[]⟩ : ByteArray) 0 0 _ _ ([] : List (S42)) 0 false _ ?side1 ?side2 ?side3 ?side4 A15.out).mono ?_); (case side1 => repeat (first | exact (Kd.C_below HR173_9.out HB.out) | (with_reducible refine Kd.C_alloc ?_ _) | (with_reducible refine Kd.C_drewN ?_ _) | (with_reducible refine Kd.C_drew ?_))); (case side2 => exact HC173_9.out); (case side3 => exact Kd.C_nil _ _); (case side4 => exact Nat.le_refl _); rintro e w20 ⟨rfl, hb⟩; have n0_ := Aside0.mk (blk_below (g := gb174) (o := .cells #[.string ((rd_T35 l0 x11_1).f0.f0), .int .i64 ((rd_T35 l0 x11_1).f0.f1), .slice A173_2 ((rd_T35 l0 x11_1).f0.f2).length c173_2, .string ((rd_T35 l0 x11_1).f0.f3), .int .i64 ((rd_T35 l0 x11_1).f0.f4), .int .i64 ((rd_T35 l0 x11_1).f0.f5), .string ((rd_T35 l0 x11_1).f1.f0), .int .i64 ((rd_T35 l0 x11_1).f1.f1), .int .i64 ((rd_T35 l0 x11_1).f1.f2), .slice A173_9 ((rd_T35 l0 x11_1).f1.f3).length c173_9, .int .i64 ((rd_T35 l0 x11_1).f1.f4), .int .i64 ((rd_T35 l0 x11_1).f2), .int .i64 ((rd_T35 l0 x11_1).f3), .bool ((rd_T35 l0 x11_1).f4)] 35 (0, 0)) (by (with_reducible repeat (first | refine blk_drewN ?_ _ | refine blk_drew ?_ | refine blk_alloc ?_ _)); exact BK174.out) hb); have n1_ := Aside0.mk (below_step (by repeat (first | (with_reducible first | exact HB.out | apply below_alloc | apply pw_below_drewN | apply below_drew1 | refine below_set ?_ GE174.out) | exact HB.out)) hb); clear BK174; clear HB; have BK174 := n0_; have HB := n1_; clear n0_ n1_; (try clear hb); (try clear hb2); (try clear hk); (try clear hi)))
                        go_ret2
                        exact ⟨by first | rfl | (simp [errW_none, errW_some] <;> rfl) | (simp [*, errW_none, errW_some] <;> rfl), by repeat (first | (with_reducible first | exact HB.out | apply below_alloc | apply pw_below_drewN | apply below_drew1 | refine below_set ?_ GE174.out) | exact HB.out)⟩
                    · rw [if_neg c14] at H
                      have c14b0 : ((rd_T35 l0 x11_1).f4) = false := by simpa using c14
                      clear c14
                      have H' := Aside0.mk H
                      clear H
                      have hcz21_0 : wc.cell? ⟨gb174, 0, none⟩ = some (.string ((rd_T35 l0 x11_1).f0.f0)) := (blk_cell BK174.out 0).trans rfl
                      have hcz21_1 : wc.cell? ⟨gb174, 1, none⟩ = some (.int .i64 ((rd_T35 l0 x11_1).f0.f1)) := (blk_cell BK174.out 1).trans rfl
                      have hcz21_2 : wc.cell? ⟨gb174, 2, none⟩ = some (.slice A173_2 ((rd_T35 l0 x11_1).f0.f2).length c173_2) := (blk_cell BK174.out 2).trans rfl
                      have hcz21_3 : wc.cell? ⟨gb174, 3, none⟩ = some (.string ((rd_T35 l0 x11_1).f0.f3)) := (blk_cell BK174.out 3).trans rfl
                      have hcz21_4 : wc.cell? ⟨gb174, 4, none⟩ = some (.int .i64 ((rd_T35 l0 x11_1).f0.f4)) := (blk_cell BK174.out 4).trans rfl
                      have hcz21_5 : wc.cell? ⟨gb174, 5, none⟩ = some (.int .i64 ((rd_T35 l0 x11_1).f0.f5)) := (blk_cell BK174.out 5).trans rfl
                      have hcz21_6 : wc.cell? ⟨gb174, 6, none⟩ = some (.string ((rd_T35 l0 x11_1).f1.f0)) := (blk_cell BK174.out 6).trans rfl
                      have hcz21_7 : wc.cell? ⟨gb174, 7, none⟩ = some (.int .i64 ((rd_T35 l0 x11_1).f1.f1)) := (blk_cell BK174.out 7).trans rfl
                      have hcz21_8 : wc.cell? ⟨gb174, 8, none⟩ = some (.int .i64 ((rd_T35 l0 x11_1).f1.f2)) := (blk_cell BK174.out 8).trans rfl
                      have hcz21_9 : wc.cell? ⟨gb174, 9, none⟩ = some (.slice A173_9 ((rd_T35 l0 x11_1).f1.f3).length c173_9) := (blk_cell BK174.out 9).trans rfl
                      have hcz21_10 : wc.cell? ⟨gb174, 10, none⟩ = some (.int .i64 ((rd_T35 l0 x11_1).f1.f4)) := (blk_cell BK174.out 10).trans rfl
                      have hcz21_11 : wc.cell? ⟨gb174, 11, none⟩ = some (.int .i64 ((rd_T35 l0 x11_1).f2)) := (blk_cell BK174.out 11).trans rfl
                      have hcz21_12 : wc.cell? ⟨gb174, 12, none⟩ = some (.int .i64 ((rd_T35 l0 x11_1).f3)) := (blk_cell BK174.out 12).trans rfl
                      have hcz21_13 : wc.cell? ⟨gb174, 13, none⟩ = some (.bool ((rd_T35 l0 x11_1).f4)) := (blk_cell BK174.out 13).trans rfl
                      have hfz21_0 := blk_frozen BK174.out 0
                      have hfz21_1 := blk_frozen BK174.out 1
                      have hfz21_2 := blk_frozen BK174.out 2
                      have hfz21_3 := blk_frozen BK174.out 3
                      have hfz21_4 := blk_frozen BK174.out 4
                      have hfz21_5 := blk_frozen BK174.out 5
                      have hfz21_6 := blk_frozen BK174.out 6
                      have hfz21_7 := blk_frozen BK174.out 7
                      have hfz21_8 := blk_frozen BK174.out 8
                      have hfz21_9 := blk_frozen BK174.out 9
                      have hfz21_10 := blk_frozen BK174.out 10
                      have hfz21_11 := blk_frozen BK174.out 11
                      have hfz21_12 := blk_frozen BK174.out 12
                      have hfz21_13 := blk_frozen BK174.out 13
                      go_wp2
                      go_roundg kj5
                      case measure => have := HK1.out; have := HJ5.out; omega
                      case rel => exact ⟨(wrap64 (x11_1 + 1)), (by first | rfl | (simp; done) | (simp [*]; done)), H', ⟨by have := HK1.out; have := HJ5.out; omega⟩, ⟨by repeat (first | (with_reducible first | exact HB.out | apply below_alloc | apply pw_below_drewN | apply below_drew1 | refine below_set ?_ GE174.out) | exact HB.out)⟩⟩
            · rw [if_neg c5] at H
              exact absurd H (by simp)
          · rw [if_neg c4] at H
            exact absurd H (by simp)
        · rw [if_neg c3] at H
          have c3b0 : decide (x11_1 < (l0.length : Int)) = false := decide_eq_false c3
          clear c3
          simp only [Option.some.injEq, Prod.mk.injEq] at H
          obtain ⟨rfl, rfl⟩ := H
          go_wp2
          go_ret2
          exact ⟨by first | rfl | (simp [errW_none, errW_some] <;> rfl) | (simp [*, errW_none, errW_some] <;> rfl), by repeat (first | (with_reducible first | exact HB.out | apply below_alloc | apply pw_below_drewN | apply below_drew1) | exact HB.out)⟩

-- NOT PRINTED: function 20 (api_Line)

-- NOT PRINTED: function 21 (api_Level_21)

-- NOT PRINTED: function 12 (lin_Until)

end Go.Proofs.Ytkjbbihnhbaipaa.PLinUntils
