-- PRINTED BY print.sh 35421559b90ae4d0a3588c463048766b98c2df88dd9212a6774a882060cdf62d: not written by this session
import Derived.Test.YtkjbbihnhbaipaaPLinChecksx0
import Derived.Test.YtkjbbihnhbaipaaPLinChecksx5
import Derived.Test.YtkjbbihnhbaipaaPLinChecksx6
namespace Go.Proofs.Ytkjbbihnhbaipaa.PLinChecks
open Go.RowKit Go.Proofs.YtkjbbihnhbaipaaW.PrintWords Go.Proofs.YtkjbbihnhbaipaaW.PrintLast Go.Proofs.YtkjbbihnhbaipaaW.PrintMore
attribute [local go_sem] max2_int min2_int max_two min_two max_three min_three max_four min_four   -- for this text's walks alone
set_option linter.unusedVariables false
set_option linter.unusedSimpArgs false

/-! ### larderlaw16_sameOp: function 23 -/
def larderlaw16_sameOp.f (k : Nat) (a0_0 : ByteArray) (a0_1 : Int) (l0_2 : List (S40)) (a0_3 : ByteArray) (a0_4 : Int) (a0_5 : Int) (a0_6 : ByteArray) (a0_7 : Int) (a0_8 : Int) (l0_9 : List (S42)) (a0_10 : Int) (a0_11 : Int) (a0_12 : Int) (a0_13 : Bool) (a1_0 : ByteArray) (a1_1 : Int) (l1_2 : List (S40)) (a1_3 : ByteArray) (a1_4 : Int) (a1_5 : Int) (a1_6 : ByteArray) (a1_7 : Int) (a1_8 : Int) (l1_9 : List (S42)) (a1_10 : Int) (a1_11 : Int) (a1_12 : Int) (a1_13 : Bool) : Option (Bool) := if a0_11 = a1_11 then (if a0_12 = a1_12 then (if (a0_13 == a1_13) = true then ((larderlaw16_sameRequest.f k a0_0 a0_1 l0_2 a0_3 a0_4 a0_5 a1_0 a1_1 l1_2 a1_3 a1_4 a1_5).bind fun t160 => (if t160 = true then ((larderref12_SameReply.f k a0_6 a0_7 a0_8 l0_9 a0_10 a1_6 a1_7 a1_8 l1_9 a1_10).bind fun t161 => (some t161)) else (some false))) else (some false)) else (some false)) else (some false)
theorem larderlaw16_sameOp.mono : ∀ a0 a1 a2 a3 a4 a5 a6 a7 a8 a9 a10 a11 a12 a13 a14 a15 a16 a17 a18 a19 a20 a21 a22 a23 a24 a25 a26 a27 k, LeO (larderlaw16_sameOp.f k a0 a1 a2 a3 a4 a5 a6 a7 a8 a9 a10 a11 a12 a13 a14 a15 a16 a17 a18 a19 a20 a21 a22 a23 a24 a25 a26 a27) (larderlaw16_sameOp.f (k + 1) a0 a1 a2 a3 a4 a5 a6 a7 a8 a9 a10 a11 a12 a13 a14 a15 a16 a17 a18 a19 a20 a21 a22 a23 a24 a25 a26 a27) := by
  intro a0 a1 a2 a3 a4 a5 a6 a7 a8 a9 a10 a11 a12 a13 a14 a15 a16 a17 a18 a19 a20 a21 a22 a23 a24 a25 a26 a27 k
  unfold larderlaw16_sameOp.f
  repeat' first
      | (with_reducible exact larderlaw16_sameRequest.mono _ _ _ _ _ _ _ _ _ _ _ _ _)
      | (with_reducible exact larderref12_SameReply.mono _ _ _ _ _ _ _ _ _ _ _)
      | (with_reducible exact LeO.refl _)
      | (with_reducible exact LeO.none _)
      | (with_reducible refine LeO.ite ?_ ?_)
      | (with_reducible refine LeO.bind ?_ (fun _ => ?_))
      | exact larderlaw16_sameRequest.mono _ _ _ _ _ _ _ _ _ _ _ _ _
      | exact larderref12_SameReply.mono _ _ _ _ _ _ _ _ _ _ _
      | exact LeO.none _
      | refine LeO.ite ?_ ?_
      | refine LeO.bind ?_ (fun _ => ?_)
set_option maxHeartbeats 8000000 in
set_option maxRecDepth 100000 in
theorem larderlaw16_sameOp.calls (k : Nat) (a0_0 : ByteArray) (a0_1 : Int) (A0_2 : Option Addr) (c0_2 : Nat) (l0_2 : List (S40)) (a0_3 : ByteArray) (a0_4 : Int) (a0_5 : Int) (a0_6 : ByteArray) (a0_7 : Int) (a0_8 : Int) (A0_9 : Option Addr) (c0_9 : Nat) (l0_9 : List (S42)) (a0_10 : Int) (a0_11 : Int) (a0_12 : Int) (a0_13 : Bool) (a1_0 : ByteArray) (a1_1 : Int) (A1_2 : Option Addr) (c1_2 : Nat) (l1_2 : List (S40)) (a1_3 : ByteArray) (a1_4 : Int) (a1_5 : Int) (a1_6 : ByteArray) (a1_7 : Int) (a1_8 : Int) (A1_9 : Option Addr) (c1_9 : Nat) (l1_9 : List (S42)) (a1_10 : Int) (a1_11 : Int) (a1_12 : Int) (a1_13 : Bool) (r : Bool) (w : World) (hr0_2 : Kd.C k40 w A0_2 l0_2.length l0_2) (hc0_2 : l0_2.length ≤ c0_2) (hr0_9 : Kd.C k42 w A0_9 l0_9.length l0_9) (hc0_9 : l0_9.length ≤ c0_9) (hr1_2 : Kd.C k40 w A1_2 l1_2.length l1_2) (hc1_2 : l1_2.length ≤ c1_2) (hr1_9 : Kd.C k42 w A1_9 l1_9.length l1_9) (hc1_9 : l1_9.length ≤ c1_9) (h : larderlaw16_sameOp.f k a0_0 a0_1 l0_2 a0_3 a0_4 a0_5 a0_6 a0_7 a0_8 l0_9 a0_10 a0_11 a0_12 a0_13 a1_0 a1_1 l1_2 a1_3 a1_4 a1_5 a1_6 a1_7 a1_8 l1_9 a1_10 a1_11 a1_12 a1_13 = some r) :
    Calls Try.prog 23 #[.agg #[.string a0_0, .int .i64 a0_1, .slice A0_2 l0_2.length c0_2, .string a0_3, .int .i64 a0_4, .int .i64 a0_5, .string a0_6, .int .i64 a0_7, .int .i64 a0_8, .slice A0_9 l0_9.length c0_9, .int .i64 a0_10, .int .i64 a0_11, .int .i64 a0_12, .bool a0_13], .agg #[.string a1_0, .int .i64 a1_1, .slice A1_2 l1_2.length c1_2, .string a1_3, .int .i64 a1_4, .int .i64 a1_5, .string a1_6, .int .i64 a1_7, .int .i64 a1_8, .slice A1_9 l1_9.length c1_9, .int .i64 a1_10, .int .i64 a1_11, .int .i64 a1_12, .bool a1_13]] w fun e w' => e = .returned (.bool r) ∧ Below w.heap.size w w' := by
  have hu35 := Try.underlying35
  have hu30 := Try.underlying30
  have hu33 := Try.underlying33
  have HR0_2 := Aside0.mk hr0_2
  have HC0_2 := Aside0.mk hc0_2
  clear hr0_2 hc0_2
  have HR0_9 := Aside0.mk hr0_9
  have HC0_9 := Aside0.mk hc0_9
  clear hr0_9 hc0_9
  have HR1_2 := Aside0.mk hr1_2
  have HC1_2 := Aside0.mk hc1_2
  clear hr1_2 hc1_2
  have HR1_9 := Aside0.mk hr1_9
  have HC1_9 := Aside0.mk hc1_9
  clear hr1_9 hc1_9
  have HB := Aside0.mk (Below.refl w.heap.size w)
  have H : (if a0_11 = a1_11 then (if a0_12 = a1_12 then (if (a0_13 == a1_13) = true then ((larderlaw16_sameRequest.f k a0_0 a0_1 l0_2 a0_3 a0_4 a0_5 a1_0 a1_1 l1_2 a1_3 a1_4 a1_5).bind fun t160 => (if t160 = true then ((larderref12_SameReply.f k a0_6 a0_7 a0_8 l0_9 a0_10 a1_6 a1_7 a1_8 l1_9 a1_10).bind fun t161 => (some t161)) else (some false))) else (some false)) else (some false)) else (some false)) = some r := h
  clear h
  by_cases c3 : a0_11 = a1_11
  · rw [if_pos c3] at H
    have c3b0 : (a0_11 == a1_11) = true := beq_iff_eq.mpr c3
    have c3b1 : (a0_11 != a1_11) = false := bne_eq_false_iff_eq.mpr c3
    clear c3
    by_cases c4 : a0_12 = a1_12
    · rw [if_pos c4] at H
      have c4b0 : (a0_12 == a1_12) = true := beq_iff_eq.mpr c4
      have c4b1 : (a0_12 != a1_12) = false := bne_eq_false_iff_eq.mpr c4
      clear c4
      by_cases c5 : (a0_13 == a1_13) = true
      · rw [if_pos c5] at H
        have c5b0 : (a0_13 == a1_13) = true := c5
        (try (have c5b1 : decide (a0_13 = a1_13) = true := by simpa using c5))
        (try (have c5b2 : (a0_13 == a1_13) = true := by simpa using c5))
        clear c5
        replace H := Option.bind_eq_some_iff.mp H
        obtain ⟨t160, A60, H⟩ := H
        replace H : (if t160 = true then ((larderref12_SameReply.f k a0_6 a0_7 a0_8 l0_9 a0_10 a1_6 a1_7 a1_8 l1_9 a1_10).bind fun t161 => (some t161)) else (some false)) = some r := H
        have A6 := Aside0.mk A60
        clear A60
        by_cases c7 : t160 = true
        · subst c7
          have H1 : ((larderref12_SameReply.f k a0_6 a0_7 a0_8 l0_9 a0_10 a1_6 a1_7 a1_8 l1_9 a1_10).bind fun t161 => (some t161)) = some r := by rw [if_pos rfl] at H; exact H
          clear H
          have H := H1
          clear H1
          replace H := Option.bind_eq_some_iff.mp H
          obtain ⟨t161, A80, H⟩ := H
          replace H : (some t161) = some r := H
          have A8 := Aside0.mk A80
          clear A80
          obtain rfl := Option.some.inj H
          go_enter Try.func23, Try.ntmps23
          go_wp2_with (first | ((with_reducible refine gate_dst (N := 2) rfl ?_); refine box_event ?hg (N := 2) ?hd (cs := #[.string a0_0, .int .i64 a0_1, .slice A0_2 l0_2.length c0_2, .string a0_3, .int .i64 a0_4, .int .i64 a0_5, .string a0_6, .int .i64 a0_7, .int .i64 a0_8, .slice A0_9 l0_9.length c0_9, .int .i64 a0_10, .int .i64 a0_11, .int .i64 a0_12, .bool a0_13]) (t := 35) ?hr ?_; (case hd => rfl); (case hg => rfl); (case hr => first | (go_simp; done) | (go_simp; rfl)); intro gb158 hg w9 hbox hb; have n0_ := Aside0.mk (below_step (by repeat (first | (with_reducible first | exact HB.out | apply below_alloc | apply pw_below_drewN | apply below_drew1) | exact HB.out)) hb); have n1_ := Aside0.mk (hbox); have n2_ := Aside0.mk ((by rw [hg]; exact (below_size (by repeat (first | (with_reducible first | exact HB.out | apply below_alloc | apply pw_below_drewN | apply below_drew1) | exact HB.out))) : w.heap.size ≤ gb158)); have n3_ := Aside0.mk ((by rw [hg]; exact (below_size (by repeat (first | (with_reducible first | exact HB.out | apply below_alloc | apply pw_below_drewN | apply below_drew1) | exact HB.out))) : w.heap.size ≤ gb158)); clear HB; have HB := n0_; have BK158 := n1_; have GW158 := n2_; have GE158 := n3_; clear n0_ n1_ n2_ n3_; clear hb hbox hg) | ((with_reducible refine gate_dst (N := 3) rfl ?_); refine box_event ?hg (N := 3) ?hd (cs := #[.string a1_0, .int .i64 a1_1, .slice A1_2 l1_2.length c1_2, .string a1_3, .int .i64 a1_4, .int .i64 a1_5, .string a1_6, .int .i64 a1_7, .int .i64 a1_8, .slice A1_9 l1_9.length c1_9, .int .i64 a1_10, .int .i64 a1_11, .int .i64 a1_12, .bool a1_13]) (t := 35) ?hr ?_; (case hd => rfl); (case hg => rfl); (case hr => first | (go_simp; done) | (go_simp; rfl)); intro gb159 hg w10 hbox hb; have n0_ := Aside0.mk (blk_below (g := gb158) (o := .cells #[.string a0_0, .int .i64 a0_1, .slice A0_2 l0_2.length c0_2, .string a0_3, .int .i64 a0_4, .int .i64 a0_5, .string a0_6, .int .i64 a0_7, .int .i64 a0_8, .slice A0_9 l0_9.length c0_9, .int .i64 a0_10, .int .i64 a0_11, .int .i64 a0_12, .bool a0_13] 35 (0, 0)) (by (with_reducible repeat (first | refine blk_drewN ?_ _ | refine blk_drew ?_ | refine blk_alloc ?_ _)); exact BK158.out) hb); have n1_ := Aside0.mk (below_step (by repeat (first | (with_reducible first | exact HB.out | apply below_alloc | apply pw_below_drewN | apply below_drew1 | refine below_set ?_ GE158.out) | exact HB.out)) hb); have n2_ := Aside0.mk (hbox); have n3_ := Aside0.mk ((by rw [hg]; exact (below_size (by repeat (first | (with_reducible first | exact HB.out | apply below_alloc | apply pw_below_drewN | apply below_drew1 | refine below_set ?_ GE158.out) | exact HB.out))) : w.heap.size ≤ gb159)); have n4_ := Aside0.mk ((by rw [hg]; exact (below_size (by repeat (first | (with_reducible first | exact HB.out | apply below_alloc | apply pw_below_drewN | apply below_drew1 | refine below_set ?_ GE158.out) | exact HB.out))) : w.heap.size ≤ gb159)); have n5_ := Aside0.mk ((by rw [hg]; exact Nat.ne_of_lt (blk_lt (g := gb158) (o := .cells #[.string a0_0, .int .i64 a0_1, .slice A0_2 l0_2.length c0_2, .string a0_3, .int .i64 a0_4, .int .i64 a0_5, .string a0_6, .int .i64 a0_7, .int .i64 a0_8, .slice A0_9 l0_9.length c0_9, .int .i64 a0_10, .int .i64 a0_11, .int .i64 a0_12, .bool a0_13] 35 (0, 0)) (by (with_reducible repeat (first | refine blk_drewN ?_ _ | refine blk_drew ?_ | refine blk_alloc ?_ _)); exact BK158.out)) : gb158 ≠ gb159)); have n6_ := Aside0.mk ((by rw [hg]; exact Nat.ne_of_gt (blk_lt (g := gb158) (o := .cells #[.string a0_0, .int .i64 a0_1, .slice A0_2 l0_2.length c0_2, .string a0_3, .int .i64 a0_4, .int .i64 a0_5, .string a0_6, .int .i64 a0_7, .int .i64 a0_8, .slice A0_9 l0_9.length c0_9, .int .i64 a0_10, .int .i64 a0_11, .int .i64 a0_12, .bool a0_13] 35 (0, 0)) (by (with_reducible repeat (first | refine blk_drewN ?_ _ | refine blk_drew ?_ | refine blk_alloc ?_ _)); exact BK158.out)) : gb159 ≠ gb158)); clear BK158; clear HB; have BK158 := n0_; have HB := n1_; have BK159 := n2_; have GW159 := n3_; have GE159 := n4_; have NB158_159 := n5_; have NB159_158 := n6_; clear n0_ n1_ n2_ n3_ n4_ n5_ n6_; clear hb hbox hg; have hnb11 := NB158_159.out; have hnc11 := NB159_158.out; have hcz12_0 : w10.cell? ⟨gb158, 0, none⟩ = some (.string a0_0) := (blk_cell BK158.out 0).trans rfl; have hcz12_1 : w10.cell? ⟨gb158, 1, none⟩ = some (.int .i64 a0_1) := (blk_cell BK158.out 1).trans rfl; have hcz12_2 : w10.cell? ⟨gb158, 2, none⟩ = some (.slice A0_2 l0_2.length c0_2) := (blk_cell BK158.out 2).trans rfl; have hcz12_3 : w10.cell? ⟨gb158, 3, none⟩ = some (.string a0_3) := (blk_cell BK158.out 3).trans rfl; have hcz12_4 : w10.cell? ⟨gb158, 4, none⟩ = some (.int .i64 a0_4) := (blk_cell BK158.out 4).trans rfl; have hcz12_5 : w10.cell? ⟨gb158, 5, none⟩ = some (.int .i64 a0_5) := (blk_cell BK158.out 5).trans rfl; have hcz12_6 : w10.cell? ⟨gb158, 6, none⟩ = some (.string a0_6) := (blk_cell BK158.out 6).trans rfl; have hcz12_7 : w10.cell? ⟨gb158, 7, none⟩ = some (.int .i64 a0_7) := (blk_cell BK158.out 7).trans rfl; have hcz12_8 : w10.cell? ⟨gb158, 8, none⟩ = some (.int .i64 a0_8) := (blk_cell BK158.out 8).trans rfl; have hcz12_9 : w10.cell? ⟨gb158, 9, none⟩ = some (.slice A0_9 l0_9.length c0_9) := (blk_cell BK158.out 9).trans rfl; have hcz12_10 : w10.cell? ⟨gb158, 10, none⟩ = some (.int .i64 a0_10) := (blk_cell BK158.out 10).trans rfl; have hcz12_11 : w10.cell? ⟨gb158, 11, none⟩ = some (.int .i64 a0_11) := (blk_cell BK158.out 11).trans rfl; have hcz12_12 : w10.cell? ⟨gb158, 12, none⟩ = some (.int .i64 a0_12) := (blk_cell BK158.out 12).trans rfl; have hcz12_13 : w10.cell? ⟨gb158, 13, none⟩ = some (.bool a0_13) := (blk_cell BK158.out 13).trans rfl; have hfz12_0 := blk_frozen BK158.out 0; have hfz12_1 := blk_frozen BK158.out 1; have hfz12_2 := blk_frozen BK158.out 2; have hfz12_3 := blk_frozen BK158.out 3; have hfz12_4 := blk_frozen BK158.out 4; have hfz12_5 := blk_frozen BK158.out 5; have hfz12_6 := blk_frozen BK158.out 6; have hfz12_7 := blk_frozen BK158.out 7; have hfz12_8 := blk_frozen BK158.out 8; have hfz12_9 := blk_frozen BK158.out 9; have hfz12_10 := blk_frozen BK158.out 10; have hfz12_11 := blk_frozen BK158.out 11; have hfz12_12 := blk_frozen BK158.out 12; have hfz12_13 := blk_frozen BK158.out 13; have hcz13_0 : w10.cell? ⟨gb159, 0, none⟩ = some (.string a1_0) := (blk_cell BK159.out 0).trans rfl; have hcz13_1 : w10.cell? ⟨gb159, 1, none⟩ = some (.int .i64 a1_1) := (blk_cell BK159.out 1).trans rfl; have hcz13_2 : w10.cell? ⟨gb159, 2, none⟩ = some (.slice A1_2 l1_2.length c1_2) := (blk_cell BK159.out 2).trans rfl; have hcz13_3 : w10.cell? ⟨gb159, 3, none⟩ = some (.string a1_3) := (blk_cell BK159.out 3).trans rfl; have hcz13_4 : w10.cell? ⟨gb159, 4, none⟩ = some (.int .i64 a1_4) := (blk_cell BK159.out 4).trans rfl; have hcz13_5 : w10.cell? ⟨gb159, 5, none⟩ = some (.int .i64 a1_5) := (blk_cell BK159.out 5).trans rfl; have hcz13_6 : w10.cell? ⟨gb159, 6, none⟩ = some (.string a1_6) := (blk_cell BK159.out 6).trans rfl; have hcz13_7 : w10.cell? ⟨gb159, 7, none⟩ = some (.int .i64 a1_7) := (blk_cell BK159.out 7).trans rfl; have hcz13_8 : w10.cell? ⟨gb159, 8, none⟩ = some (.int .i64 a1_8) := (blk_cell BK159.out 8).trans rfl; have hcz13_9 : w10.cell? ⟨gb159, 9, none⟩ = some (.slice A1_9 l1_9.length c1_9) := (blk_cell BK159.out 9).trans rfl; have hcz13_10 : w10.cell? ⟨gb159, 10, none⟩ = some (.int .i64 a1_10) := (blk_cell BK159.out 10).trans rfl; have hcz13_11 : w10.cell? ⟨gb159, 11, none⟩ = some (.int .i64 a1_11) := (blk_cell BK159.out 11).trans rfl; have hcz13_12 : w10.cell? ⟨gb159, 12, none⟩ = some (.int .i64 a1_12) := (blk_cell BK159.out 12).trans rfl; have hcz13_13 : w10.cell? ⟨gb159, 13, none⟩ = some (.bool a1_13) := (blk_cell BK159.out 13).trans rfl; have hfz13_0 := blk_frozen BK159.out 0; have hfz13_1 := blk_frozen BK159.out 1; have hfz13_2 := blk_frozen BK159.out 2; have hfz13_3 := blk_frozen BK159.out 3; have hfz13_4 := blk_frozen BK159.out 4; have hfz13_5 := blk_frozen BK159.out 5; have hfz13_6 := blk_frozen BK159.out 6; have hfz13_7 := blk_frozen BK159.out 7; have hfz13_8 := blk_frozen BK159.out 8; have hfz13_9 := blk_frozen BK159.out 9; have hfz13_10 := blk_frozen BK159.out 10; have hfz13_11 := blk_frozen BK159.out 11; have hfz13_12 := blk_frozen BK159.out 12; have hfz13_13 := blk_frozen BK159.out 13) | (go_at_call 29; (with_reducible refine (larderlaw16_sameRequest.calls k a0_0 a0_1 _ _ l0_2 a0_3 a0_4 a0_5 a1_0 a1_1 _ _ l1_2 a1_3 a1_4 a1_5 true _ ?side1 ?side2 ?side3 ?side4 A6.out).mono ?_); (case side1 => repeat (first | exact (Kd.C_below HR0_2.out HB.out) | (with_reducible refine Kd.C_alloc ?_ _) | (with_reducible refine Kd.C_drewN ?_ _) | (with_reducible refine Kd.C_drew ?_))); (case side2 => exact HC0_2.out); (case side3 => repeat (first | exact (Kd.C_below HR1_2.out HB.out) | (with_reducible refine Kd.C_alloc ?_ _) | (with_reducible refine Kd.C_drewN ?_ _) | (with_reducible refine Kd.C_drew ?_))); (case side4 => exact HC1_2.out); rintro e w14 ⟨rfl, hb⟩; have n0_ := Aside0.mk (blk_below (g := gb158) (o := .cells #[.string a0_0, .int .i64 a0_1, .slice A0_2 l0_2.length c0_2, .string a0_3, .int .i64 a0_4, .int .i64 a0_5, .string a0_6, .int .i64 a0_7, .int .i64 a0_8, .slice A0_9 l0_9.length c0_9, .int .i64 a0_10, .int .i64 a0_11, .int .i64 a0_12, .bool a0_13] 35 (0, 0)) (by (with_reducible repeat (first | refine blk_drewN ?_ _ | refine blk_drew ?_ | refine blk_alloc ?_ _)); exact BK158.out) hb); have n1_ := Aside0.mk (blk_below (g := gb159) (o := .cells #[.string a1_0, .int .i64 a1_1, .slice A1_2 l1_2.length c1_2, .string a1_3, .int .i64 a1_4, .int .i64 a1_5, .string a1_6, .int .i64 a1_7, .int .i64 a1_8, .slice A1_9 l1_9.length c1_9, .int .i64 a1_10, .int .i64 a1_11, .int .i64 a1_12, .bool a1_13] 35 (0, 0)) (by (with_reducible repeat (first | refine blk_drewN ?_ _ | refine blk_drew ?_ | refine blk_alloc ?_ _)); exact BK159.out) hb); have n2_ := Aside0.mk (below_step (by repeat (first | (with_reducible first | exact HB.out | apply below_alloc | apply pw_below_drewN | apply below_drew1 | refine below_set ?_ GE158.out | refine below_set ?_ GE159.out) | exact HB.out)) hb); clear BK158; clear BK159; clear HB; have BK158 := n0_; have BK159 := n1_; have HB := n2_; clear n0_ n1_ n2_; (try clear hb); (try clear hb2); (try clear hk); (try clear hi); have hcz15_0 : w14.cell? ⟨gb158, 0, none⟩ = some (.string a0_0) := (blk_cell BK158.out 0).trans rfl; have hcz15_1 : w14.cell? ⟨gb158, 1, none⟩ = some (.int .i64 a0_1) := (blk_cell BK158.out 1).trans rfl; have hcz15_2 : w14.cell? ⟨gb158, 2, none⟩ = some (.slice A0_2 l0_2.length c0_2) := (blk_cell BK158.out 2).trans rfl; have hcz15_3 : w14.cell? ⟨gb158, 3, none⟩ = some (.string a0_3) := (blk_cell BK158.out 3).trans rfl; have hcz15_4 : w14.cell? ⟨gb158, 4, none⟩ = some (.int .i64 a0_4) := (blk_cell BK158.out 4).trans rfl; have hcz15_5 : w14.cell? ⟨gb158, 5, none⟩ = some (.int .i64 a0_5) := (blk_cell BK158.out 5).trans rfl; have hcz15_6 : w14.cell? ⟨gb158, 6, none⟩ = some (.string a0_6) := (blk_cell BK158.out 6).trans rfl; have hcz15_7 : w14.cell? ⟨gb158, 7, none⟩ = some (.int .i64 a0_7) := (blk_cell BK158.out 7).trans rfl; have hcz15_8 : w14.cell? ⟨gb158, 8, none⟩ = some (.int .i64 a0_8) := (blk_cell BK158.out 8).trans rfl; have hcz15_9 : w14.cell? ⟨gb158, 9, none⟩ = some (.slice A0_9 l0_9.length c0_9) := (blk_cell BK158.out 9).trans rfl; have hcz15_10 : w14.cell? ⟨gb158, 10, none⟩ = some (.int .i64 a0_10) := (blk_cell BK158.out 10).trans rfl; have hcz15_11 : w14.cell? ⟨gb158, 11, none⟩ = some (.int .i64 a0_11) := (blk_cell BK158.out 11).trans rfl; have hcz15_12 : w14.cell? ⟨gb158, 12, none⟩ = some (.int .i64 a0_12) := (blk_cell BK158.out 12).trans rfl; have hcz15_13 : w14.cell? ⟨gb158, 13, none⟩ = some (.bool a0_13) := (blk_cell BK158.out 13).trans rfl; have hfz15_0 := blk_frozen BK158.out 0; have hfz15_1 := blk_frozen BK158.out 1; have hfz15_2 := blk_frozen BK158.out 2; have hfz15_3 := blk_frozen BK158.out 3; have hfz15_4 := blk_frozen BK158.out 4; have hfz15_5 := blk_frozen BK158.out 5; have hfz15_6 := blk_frozen BK158.out 6; have hfz15_7 := blk_frozen BK158.out 7; have hfz15_8 := blk_frozen BK158.out 8; have hfz15_9 := blk_frozen BK158.out 9; have hfz15_10 := blk_frozen BK158.out 10; have hfz15_11 := blk_frozen BK158.out 11; have hfz15_12 := blk_frozen BK158.out 12; have hfz15_13 := blk_frozen BK158.out 13; have hcz16_0 : w14.cell? ⟨gb159, 0, none⟩ = some (.string a1_0) := (blk_cell BK159.out 0).trans rfl; have hcz16_1 : w14.cell? ⟨gb159, 1, none⟩ = some (.int .i64 a1_1) := (blk_cell BK159.out 1).trans rfl; have hcz16_2 : w14.cell? ⟨gb159, 2, none⟩ = some (.slice A1_2 l1_2.length c1_2) := (blk_cell BK159.out 2).trans rfl; have hcz16_3 : w14.cell? ⟨gb159, 3, none⟩ = some (.string a1_3) := (blk_cell BK159.out 3).trans rfl; have hcz16_4 : w14.cell? ⟨gb159, 4, none⟩ = some (.int .i64 a1_4) := (blk_cell BK159.out 4).trans rfl; have hcz16_5 : w14.cell? ⟨gb159, 5, none⟩ = some (.int .i64 a1_5) := (blk_cell BK159.out 5).trans rfl; have hcz16_6 : w14.cell? ⟨gb159, 6, none⟩ = some (.string a1_6) := (blk_cell BK159.out 6).trans rfl; have hcz16_7 : w14.cell? ⟨gb159, 7, none⟩ = some (.int .i64 a1_7) := (blk_cell BK159.out 7).trans rfl; have hcz16_8 : w14.cell? ⟨gb159, 8, none⟩ = some (.int .i64 a1_8) := (blk_cell BK159.out 8).trans rfl; have hcz16_9 : w14.cell? ⟨gb159, 9, none⟩ = some (.slice A1_9 l1_9.length c1_9) := (blk_cell BK159.out 9).trans rfl; have hcz16_10 : w14.cell? ⟨gb159, 10, none⟩ = some (.int .i64 a1_10) := (blk_cell BK159.out 10).trans rfl; have hcz16_11 : w14.cell? ⟨gb159, 11, none⟩ = some (.int .i64 a1_11) := (blk_cell BK159.out 11).trans rfl; have hcz16_12 : w14.cell? ⟨gb159, 12, none⟩ = some (.int .i64 a1_12) := (blk_cell BK159.out 12).trans rfl; have hcz16_13 : w14.cell? ⟨gb159, 13, none⟩ = some (.bool a1_13) := (blk_cell BK159.out 13).trans rfl; have hfz16_0 := blk_frozen BK159.out 0; have hfz16_1 := blk_frozen BK159.out 1; have hfz16_2 := blk_frozen BK159.out 2; have hfz16_3 := blk_frozen BK159.out 3; have hfz16_4 := blk_frozen BK159.out 4; have hfz16_5 := blk_frozen BK159.out 5; have hfz16_6 := blk_frozen BK159.out 6; have hfz16_7 := blk_frozen BK159.out 7; have hfz16_8 := blk_frozen BK159.out 8; have hfz16_9 := blk_frozen BK159.out 9; have hfz16_10 := blk_frozen BK159.out 10; have hfz16_11 := blk_frozen BK159.out 11; have hfz16_12 := blk_frozen BK159.out 12; have hfz16_13 := blk_frozen BK159.out 13) | (go_at_call 19; (with_reducible refine (larderref12_SameReply.calls k a0_6 a0_7 a0_8 _ _ l0_9 a0_10 a1_6 a1_7 a1_8 _ _ l1_9 a1_10 t161 _ ?side1 ?side2 ?side3 ?side4 A8.out).mono ?_); (case side1 => repeat (first | exact (Kd.C_below HR0_9.out HB.out) | (with_reducible refine Kd.C_alloc ?_ _) | (with_reducible refine Kd.C_drewN ?_ _) | (with_reducible refine Kd.C_drew ?_))); (case side2 => exact HC0_9.out); (case side3 => repeat (first | exact (Kd.C_below HR1_9.out HB.out) | (with_reducible refine Kd.C_alloc ?_ _) | (with_reducible refine Kd.C_drewN ?_ _) | (with_reducible refine Kd.C_drew ?_))); (case side4 => exact HC1_9.out); rintro e w17 ⟨rfl, hb⟩; have n0_ := Aside0.mk (blk_below (g := gb158) (o := .cells #[.string a0_0, .int .i64 a0_1, .slice A0_2 l0_2.length c0_2, .string a0_3, .int .i64 a0_4, .int .i64 a0_5, .string a0_6, .int .i64 a0_7, .int .i64 a0_8, .slice A0_9 l0_9.length c0_9, .int .i64 a0_10, .int .i64 a0_11, .int .i64 a0_12, .bool a0_13] 35 (0, 0)) (by (with_reducible repeat (first | refine blk_drewN ?_ _ | refine blk_drew ?_ | refine blk_alloc ?_ _)); exact BK158.out) hb); have n1_ := Aside0.mk (blk_below (g := gb159) (o := .cells #[.string a1_0, .int .i64 a1_1, .slice A1_2 l1_2.length c1_2, .string a1_3, .int .i64 a1_4, .int .i64 a1_5, .string a1_6, .int .i64 a1_7, .int .i64 a1_8, .slice A1_9 l1_9.length c1_9, .int .i64 a1_10, .int .i64 a1_11, .int .i64 a1_12, .bool a1_13] 35 (0, 0)) (by (with_reducible repeat (first | refine blk_drewN ?_ _ | refine blk_drew ?_ | refine blk_alloc ?_ _)); exact BK159.out) hb); have n2_ := Aside0.mk (below_step (by repeat (first | (with_reducible first | exact HB.out | apply below_alloc | apply pw_below_drewN | apply below_drew1 | refine below_set ?_ GE158.out | refine below_set ?_ GE159.out) | exact HB.out)) hb); clear BK158; clear BK159; clear HB; have BK158 := n0_; have BK159 := n1_; have HB := n2_; clear n0_ n1_ n2_; (try clear hb); (try clear hb2); (try clear hk); (try clear hi)))
          go_ret
          exact ⟨by first | rfl | (simp [errW_none, errW_some] <;> rfl) | (simp [*, errW_none, errW_some] <;> rfl), by repeat (first | (with_reducible first | exact HB.out | apply below_alloc | apply pw_below_drewN | apply below_drew1 | refine below_set ?_ GE158.out | refine below_set ?_ GE159.out) | exact HB.out)⟩
        · replace c7 := Bool.eq_false_iff.mpr c7
          subst c7
          have H1 : (some false) = some r := by rw [if_neg (show ¬ (false = true) by decide)] at H; exact H
          clear H
          have H := H1
          clear H1
          obtain rfl := Option.some.inj H
          go_enter Try.func23, Try.ntmps23
          go_wp2_with (first | ((with_reducible refine gate_dst (N := 2) rfl ?_); refine box_event ?hg (N := 2) ?hd (cs := #[.string a0_0, .int .i64 a0_1, .slice A0_2 l0_2.length c0_2, .string a0_3, .int .i64 a0_4, .int .i64 a0_5, .string a0_6, .int .i64 a0_7, .int .i64 a0_8, .slice A0_9 l0_9.length c0_9, .int .i64 a0_10, .int .i64 a0_11, .int .i64 a0_12, .bool a0_13]) (t := 35) ?hr ?_; (case hd => rfl); (case hg => rfl); (case hr => first | (go_simp; done) | (go_simp; rfl)); intro gb158 hg w18 hbox hb; have n0_ := Aside0.mk (below_step (by repeat (first | (with_reducible first | exact HB.out | apply below_alloc | apply pw_below_drewN | apply below_drew1) | exact HB.out)) hb); have n1_ := Aside0.mk (hbox); have n2_ := Aside0.mk ((by rw [hg]; exact (below_size (by repeat (first | (with_reducible first | exact HB.out | apply below_alloc | apply pw_below_drewN | apply below_drew1) | exact HB.out))) : w.heap.size ≤ gb158)); have n3_ := Aside0.mk ((by rw [hg]; exact (below_size (by repeat (first | (with_reducible first | exact HB.out | apply below_alloc | apply pw_below_drewN | apply below_drew1) | exact HB.out))) : w.heap.size ≤ gb158)); clear HB; have HB := n0_; have BK158 := n1_; have GW158 := n2_; have GE158 := n3_; clear n0_ n1_ n2_ n3_; clear hb hbox hg) | ((with_reducible refine gate_dst (N := 3) rfl ?_); refine box_event ?hg (N := 3) ?hd (cs := #[.string a1_0, .int .i64 a1_1, .slice A1_2 l1_2.length c1_2, .string a1_3, .int .i64 a1_4, .int .i64 a1_5, .string a1_6, .int .i64 a1_7, .int .i64 a1_8, .slice A1_9 l1_9.length c1_9, .int .i64 a1_10, .int .i64 a1_11, .int .i64 a1_12, .bool a1_13]) (t := 35) ?hr ?_; (case hd => rfl); (case hg => rfl); (case hr => first | (go_simp; done) | (go_simp; rfl)); intro gb159 hg w19 hbox hb; have n0_ := Aside0.mk (blk_below (g := gb158) (o := .cells #[.string a0_0, .int .i64 a0_1, .slice A0_2 l0_2.length c0_2, .string a0_3, .int .i64 a0_4, .int .i64 a0_5, .string a0_6, .int .i64 a0_7, .int .i64 a0_8, .slice A0_9 l0_9.length c0_9, .int .i64 a0_10, .int .i64 a0_11, .int .i64 a0_12, .bool a0_13] 35 (0, 0)) (by (with_reducible repeat (first | refine blk_drewN ?_ _ | refine blk_drew ?_ | refine blk_alloc ?_ _)); exact BK158.out) hb); have n1_ := Aside0.mk (below_step (by repeat (first | (with_reducible first | exact HB.out | apply below_alloc | apply pw_below_drewN | apply below_drew1 | refine below_set ?_ GE158.out) | exact HB.out)) hb); have n2_ := Aside0.mk (hbox); have n3_ := Aside0.mk ((by rw [hg]; exact (below_size (by repeat (first | (with_reducible first | exact HB.out | apply below_alloc | apply pw_below_drewN | apply below_drew1 | refine below_set ?_ GE158.out) | exact HB.out))) : w.heap.size ≤ gb159)); have n4_ := Aside0.mk ((by rw [hg]; exact (below_size (by repeat (first | (with_reducible first | exact HB.out | apply below_alloc | apply pw_below_drewN | apply below_drew1 | refine below_set ?_ GE158.out) | exact HB.out))) : w.heap.size ≤ gb159)); have n5_ := Aside0.mk ((by rw [hg]; exact Nat.ne_of_lt (blk_lt (g := gb158) (o := .cells #[.string a0_0, .int .i64 a0_1, .slice A0_2 l0_2.length c0_2, .string a0_3, .int .i64 a0_4, .int .i64 a0_5, .string a0_6, .int .i64 a0_7, .int .i64 a0_8, .slice A0_9 l0_9.length c0_9, .int .i64 a0_10, .int .i64 a0_11, .int .i64 a0_12, .bool a0_13] 35 (0, 0)) (by (with_reducible repeat (first | refine blk_drewN ?_ _ | refine blk_drew ?_ | refine blk_alloc ?_ _)); exact BK158.out)) : gb158 ≠ gb159)); have n6_ := Aside0.mk ((by rw [hg]; exact Nat.ne_of_gt (blk_lt (g := gb158) (o := .cells #[.string a0_0, .int .i64 a0_1, .slice A0_2 l0_2.length c0_2, .string a0_3, .int .i64 a0_4, .int .i64 a0_5, .string a0_6, .int .i64 a0_7, .int .i64 a0_8, .slice A0_9 l0_9.length c0_9, .int .i64 a0_10, .int .i64 a0_11, .int .i64 a0_12, .bool a0_13] 35 (0, 0)) (by (with_reducible repeat (first | refine blk_drewN ?_ _ | refine blk_drew ?_ | refine blk_alloc ?_ _)); exact BK158.out)) : gb159 ≠ gb158)); clear BK158; clear HB; have BK158 := n0_; have HB := n1_; have BK159 := n2_; have GW159 := n3_; have GE159 := n4_; have NB158_159 := n5_; have NB159_158 := n6_; clear n0_ n1_ n2_ n3_ n4_ n5_ n6_; clear hb hbox hg; have hnb20 := NB158_159.out; have hnc20 := NB159_158.out; have hcz21_0 : w19.cell? ⟨gb158, 0, none⟩ = some (.string a0_0) := (blk_cell BK158.out 0).trans rfl; have hcz21_1 : w19.cell? ⟨gb158, 1, none⟩ = some (.int .i64 a0_1) := (blk_cell BK158.out 1).trans rfl; have hcz21_2 : w19.cell? ⟨gb158, 2, none⟩ = some (.slice A0_2 l0_2.length c0_2) := (blk_cell BK158.out 2).trans rfl; have hcz21_3 : w19.cell? ⟨gb158, 3, none⟩ = some (.string a0_3) := (blk_cell BK158.out 3).trans rfl; have hcz21_4 : w19.cell? ⟨gb158, 4, none⟩ = some (.int .i64 a0_4) := (blk_cell BK158.out 4).trans rfl; have hcz21_5 : w19.cell? ⟨gb158, 5, none⟩ = some (.int .i64 a0_5) := (blk_cell BK158.out 5).trans rfl; have hcz21_6 : w19.cell? ⟨gb158, 6, none⟩ = some (.string a0_6) := (blk_cell BK158.out 6).trans rfl; have hcz21_7 : w19.cell? ⟨gb158, 7, none⟩ = some (.int .i64 a0_7) := (blk_cell BK158.out 7).trans rfl; have hcz21_8 : w19.cell? ⟨gb158, 8, none⟩ = some (.int .i64 a0_8) := (blk_cell BK158.out 8).trans rfl; have hcz21_9 : w19.cell? ⟨gb158, 9, none⟩ = some (.slice A0_9 l0_9.length c0_9) := (blk_cell BK158.out 9).trans rfl; have hcz21_10 : w19.cell? ⟨gb158, 10, none⟩ = some (.int .i64 a0_10) := (blk_cell BK158.out 10).trans rfl; have hcz21_11 : w19.cell? ⟨gb158, 11, none⟩ = some (.int .i64 a0_11) := (blk_cell BK158.out 11).trans rfl; have hcz21_12 : w19.cell? ⟨gb158, 12, none⟩ = some (.int .i64 a0_12) := (blk_cell BK158.out 12).trans rfl; have hcz21_13 : w19.cell? ⟨gb158, 13, none⟩ = some (.bool a0_13) := (blk_cell BK158.out 13).trans rfl; have hfz21_0 := blk_frozen BK158.out 0; have hfz21_1 := blk_frozen BK158.out 1; have hfz21_2 := blk_frozen BK158.out 2; have hfz21_3 := blk_frozen BK158.out 3; have hfz21_4 := blk_frozen BK158.out 4; have hfz21_5 := blk_frozen BK158.out 5; have hfz21_6 := blk_frozen BK158.out 6; have hfz21_7 := blk_frozen BK158.out 7; have hfz21_8 := blk_frozen BK158.out 8; have hfz21_9 := blk_frozen BK158.out 9; have hfz21_10 := blk_frozen BK158.out 10; have hfz21_11 := blk_frozen BK158.out 11; have hfz21_12 := blk_frozen BK158.out 12; have hfz21_13 := blk_frozen BK158.out 13; have hcz22_0 : w19.cell? ⟨gb159, 0, none⟩ = some (.string a1_0) := (blk_cell BK159.out 0).trans rfl; have hcz22_1 : w19.cell? ⟨gb159, 1, none⟩ = some (.int .i64 a1_1) := (blk_cell BK159.out 1).trans rfl; have hcz22_2 : w19.cell? ⟨gb159, 2, none⟩ = some (.slice A1_2 l1_2.length c1_2) := (blk_cell BK159.out 2).trans rfl; have hcz22_3 : w19.cell? ⟨gb159, 3, none⟩ = some (.string a1_3) := (blk_cell BK159.out 3).trans rfl; have hcz22_4 : w19.cell? ⟨gb159, 4, none⟩ = some (.int .i64 a1_4) := (blk_cell BK159.out 4).trans rfl; have hcz22_5 : w19.cell? ⟨gb159, 5, none⟩ = some (.int .i64 a1_5) := (blk_cell BK159.out 5).trans rfl; have hcz22_6 : w19.cell? ⟨gb159, 6, none⟩ = some (.string a1_6) := (blk_cell BK159.out 6).trans rfl; have hcz22_7 : w19.cell? ⟨gb159, 7, none⟩ = some (.int .i64 a1_7) := (blk_cell BK159.out 7).trans rfl; have hcz22_8 : w19.cell? ⟨gb159, 8, none⟩ = some (.int .i64 a1_8) := (blk_cell BK159.out 8).trans rfl; have hcz22_9 : w19.cell? ⟨gb159, 9, none⟩ = some (.slice A1_9 l1_9.length c1_9) := (blk_cell BK159.out 9).trans rfl; have hcz22_10 : w19.cell? ⟨gb159, 10, none⟩ = some (.int .i64 a1_10) := (blk_cell BK159.out 10).trans rfl; have hcz22_11 : w19.cell? ⟨gb159, 11, none⟩ = some (.int .i64 a1_11) := (blk_cell BK159.out 11).trans rfl; have hcz22_12 : w19.cell? ⟨gb159, 12, none⟩ = some (.int .i64 a1_12) := (blk_cell BK159.out 12).trans rfl; have hcz22_13 : w19.cell? ⟨gb159, 13, none⟩ = some (.bool a1_13) := (blk_cell BK159.out 13).trans rfl; have hfz22_0 := blk_frozen BK159.out 0; have hfz22_1 := blk_frozen BK159.out 1; have hfz22_2 := blk_frozen BK159.out 2; have hfz22_3 := blk_frozen BK159.out 3; have hfz22_4 := blk_frozen BK159.out 4; have hfz22_5 := blk_frozen BK159.out 5; have hfz22_6 := blk_frozen BK159.out 6; have hfz22_7 := blk_frozen BK159.out 7; have hfz22_8 := blk_frozen BK159.out 8; have hfz22_9 := blk_frozen BK159.out 9; have hfz22_10 := blk_frozen BK159.out 10; have hfz22_11 := blk_frozen BK159.out 11; have hfz22_12 := blk_frozen BK159.out 12; have hfz22_13 := blk_frozen BK159.out 13) | (go_at_call 29; (with_reducible refine (larderlaw16_sameRequest.calls k a0_0 a0_1 _ _ l0_2 a0_3 a0_4 a0_5 a1_0 a1_1 _ _ l1_2 a1_3 a1_4 a1_5 false _ ?side1 ?side2 ?side3 ?side4 A6.out).mono ?_); (case side1 => repeat (first | exact (Kd.C_below HR0_2.out HB.out) | (with_reducible refine Kd.C_alloc ?_ _) | (with_reducible refine Kd.C_drewN ?_ _) | (with_reducible refine Kd.C_drew ?_))); (case side2 => exact HC0_2.out); (case side3 => repeat (first | exact (Kd.C_below HR1_2.out HB.out) | (with_reducible refine Kd.C_alloc ?_ _) | (with_reducible refine Kd.C_drewN ?_ _) | (with_reducible refine Kd.C_drew ?_))); (case side4 => exact HC1_2.out); rintro e w23 ⟨rfl, hb⟩; have n0_ := Aside0.mk (blk_below (g := gb158) (o := .cells #[.string a0_0, .int .i64 a0_1, .slice A0_2 l0_2.length c0_2, .string a0_3, .int .i64 a0_4, .int .i64 a0_5, .string a0_6, .int .i64 a0_7, .int .i64 a0_8, .slice A0_9 l0_9.length c0_9, .int .i64 a0_10, .int .i64 a0_11, .int .i64 a0_12, .bool a0_13] 35 (0, 0)) (by (with_reducible repeat (first | refine blk_drewN ?_ _ | refine blk_drew ?_ | refine blk_alloc ?_ _)); exact BK158.out) hb); have n1_ := Aside0.mk (blk_below (g := gb159) (o := .cells #[.string a1_0, .int .i64 a1_1, .slice A1_2 l1_2.length c1_2, .string a1_3, .int .i64 a1_4, .int .i64 a1_5, .string a1_6, .int .i64 a1_7, .int .i64 a1_8, .slice A1_9 l1_9.length c1_9, .int .i64 a1_10, .int .i64 a1_11, .int .i64 a1_12, .bool a1_13] 35 (0, 0)) (by (with_reducible repeat (first | refine blk_drewN ?_ _ | refine blk_drew ?_ | refine blk_alloc ?_ _)); exact BK159.out) hb); have n2_ := Aside0.mk (below_step (by repeat (first | (with_reducible first | exact HB.out | apply below_alloc | apply pw_below_drewN | apply below_drew1 | refine below_set ?_ GE158.out | refine below_set ?_ GE159.out) | exact HB.out)) hb); clear BK158; clear BK159; clear HB; have BK158 := n0_; have BK159 := n1_; have HB := n2_; clear n0_ n1_ n2_; (try clear hb); (try clear hb2); (try clear hk); (try clear hi)))
          go_ret
          exact ⟨by first | rfl | (simp [errW_none, errW_some] <;> rfl) | (simp [*, errW_none, errW_some] <;> rfl), by repeat (first | (with_reducible first | exact HB.out | apply below_alloc | apply pw_below_drewN | apply below_drew1 | refine below_set ?_ GE158.out | refine below_set ?_ GE159.out) | exact HB.out)⟩
      · rw [if_neg c5] at H
        have c5b0 : (a0_13 == a1_13) = false := by simpa using c5
        (try (have c5b1 : decide (a0_13 = a1_13) = false := by simpa using c5))
        (try (have c5b2 : (a0_13 == a1_13) = false := by simpa using c5))
        (try (have c5b3 : ¬ (a0_13 = a1_13) := by simpa using c5))
        clear c5
        obtain rfl := Option.some.inj H
        go_enter Try.func23, Try.ntmps23
        go_wp2_with (first | ((with_reducible refine gate_dst (N := 2) rfl ?_); refine box_event ?hg (N := 2) ?hd (cs := #[.string a0_0, .int .i64 a0_1, .slice A0_2 l0_2.length c0_2, .string a0_3, .int .i64 a0_4, .int .i64 a0_5, .string a0_6, .int .i64 a0_7, .int .i64 a0_8, .slice A0_9 l0_9.length c0_9, .int .i64 a0_10, .int .i64 a0_11, .int .i64 a0_12, .bool a0_13]) (t := 35) ?hr ?_; (case hd => rfl); (case hg => rfl); (case hr => first | (go_simp; done) | (go_simp; rfl)); intro gb158 hg w24 hbox hb; have n0_ := Aside0.mk (below_step (by repeat (first | (with_reducible first | exact HB.out | apply below_alloc | apply pw_below_drewN | apply below_drew1) | exact HB.out)) hb); have n1_ := Aside0.mk (hbox); have n2_ := Aside0.mk ((by rw [hg]; exact (below_size (by repeat (first | (with_reducible first | exact HB.out | apply below_alloc | apply pw_below_drewN | apply below_drew1) | exact HB.out))) : w.heap.size ≤ gb158)); have n3_ := Aside0.mk ((by rw [hg]; exact (below_size (by repeat (first | (with_reducible first | exact HB.out | apply below_alloc | apply pw_below_drewN | apply below_drew1) | exact HB.out))) : w.heap.size ≤ gb158)); clear HB; have HB := n0_; have BK158 := n1_; have GW158 := n2_; have GE158 := n3_; clear n0_ n1_ n2_ n3_; clear hb hbox hg) | ((with_reducible refine gate_dst (N := 3) rfl ?_); refine box_event ?hg (N := 3) ?hd (cs := #[.string a1_0, .int .i64 a1_1, .slice A1_2 l1_2.length c1_2, .string a1_3, .int .i64 a1_4, .int .i64 a1_5, .string a1_6, .int .i64 a1_7, .int .i64 a1_8, .slice A1_9 l1_9.length c1_9, .int .i64 a1_10, .int .i64 a1_11, .int .i64 a1_12, .bool a1_13]) (t := 35) ?hr ?_; (case hd => rfl); (case hg => rfl); (case hr => first | (go_simp; done) | (go_simp; rfl)); intro gb159 hg w25 hbox hb; have n0_ := Aside0.mk (blk_below (g := gb158) (o := .cells #[.string a0_0, .int .i64 a0_1, .slice A0_2 l0_2.length c0_2, .string a0_3, .int .i64 a0_4, .int .i64 a0_5, .string a0_6, .int .i64 a0_7, .int .i64 a0_8, .slice A0_9 l0_9.length c0_9, .int .i64 a0_10, .int .i64 a0_11, .int .i64 a0_12, .bool a0_13] 35 (0, 0)) (by (with_reducible repeat (first | refine blk_drewN ?_ _ | refine blk_drew ?_ | refine blk_alloc ?_ _)); exact BK158.out) hb); have n1_ := Aside0.mk (below_step (by repeat (first | (with_reducible first | exact HB.out | apply below_alloc | apply pw_below_drewN | apply below_drew1 | refine below_set ?_ GE158.out) | exact HB.out)) hb); have n2_ := Aside0.mk (hbox); have n3_ := Aside0.mk ((by rw [hg]; exact (below_size (by repeat (first | (with_reducible first | exact HB.out | apply below_alloc | apply pw_below_drewN | apply below_drew1 | refine below_set ?_ GE158.out) | exact HB.out))) : w.heap.size ≤ gb159)); have n4_ := Aside0.mk ((by rw [hg]; exact (below_size (by repeat (first | (with_reducible first | exact HB.out | apply below_alloc | apply pw_below_drewN | apply below_drew1 | refine below_set ?_ GE158.out) | exact HB.out))) : w.heap.size ≤ gb159)); have n5_ := Aside0.mk ((by rw [hg]; exact Nat.ne_of_lt (blk_lt (g := gb158) (o := .cells #[.string a0_0, .int .i64 a0_1, .slice A0_2 l0_2.length c0_2, .string a0_3, .int .i64 a0_4, .int .i64 a0_5, .string a0_6, .int .i64 a0_7, .int .i64 a0_8, .slice A0_9 l0_9.length c0_9, .int .i64 a0_10, .int .i64 a0_11, .int .i64 a0_12, .bool a0_13] 35 (0, 0)) (by (with_reducible repeat (first | refine blk_drewN ?_ _ | refine blk_drew ?_ | refine blk_alloc ?_ _)); exact BK158.out)) : gb158 ≠ gb159)); have n6_ := Aside0.mk ((by rw [hg]; exact Nat.ne_of_gt (blk_lt (g := gb158) (o := .cells #[.string a0_0, .int .i64 a0_1, .slice A0_2 l0_2.length c0_2, .string a0_3, .int .i64 a0_4, .int .i64 a0_5, .string a0_6, .int .i64 a0_7, .int .i64 a0_8, .slice A0_9 l0_9.length c0_9, .int .i64 a0_10, .int .i64 a0_11, .int .i64 a0_12, .bool a0_13] 35 (0, 0)) (by (with_reducible repeat (first | refine blk_drewN ?_ _ | refine blk_drew ?_ | refine blk_alloc ?_ _)); exact BK158.out)) : gb159 ≠ gb158)); clear BK158; clear HB; have BK158 := n0_; have HB := n1_; have BK159 := n2_; have GW159 := n3_; have GE159 := n4_; have NB158_159 := n5_; have NB159_158 := n6_; clear n0_ n1_ n2_ n3_ n4_ n5_ n6_; clear hb hbox hg; have hnb26 := NB158_159.out; have hnc26 := NB159_158.out; have hcz27_0 : w25.cell? ⟨gb158, 0, none⟩ = some (.string a0_0) := (blk_cell BK158.out 0).trans rfl; have hcz27_1 : w25.cell? ⟨gb158, 1, none⟩ = some (.int .i64 a0_1) := (blk_cell BK158.out 1).trans rfl; have hcz27_2 : w25.cell? ⟨gb158, 2, none⟩ = some (.slice A0_2 l0_2.length c0_2) := (blk_cell BK158.out 2).trans rfl; have hcz27_3 : w25.cell? ⟨gb158, 3, none⟩ = some (.string a0_3) := (blk_cell BK158.out 3).trans rfl; have hcz27_4 : w25.cell? ⟨gb158, 4, none⟩ = some (.int .i64 a0_4) := (blk_cell BK158.out 4).trans rfl; have hcz27_5 : w25.cell? ⟨gb158, 5, none⟩ = some (.int .i64 a0_5) := (blk_cell BK158.out 5).trans rfl; have hcz27_6 : w25.cell? ⟨gb158, 6, none⟩ = some (.string a0_6) := (blk_cell BK158.out 6).trans rfl; have hcz27_7 : w25.cell? ⟨gb158, 7, none⟩ = some (.int .i64 a0_7) := (blk_cell BK158.out 7).trans rfl; have hcz27_8 : w25.cell? ⟨gb158, 8, none⟩ = some (.int .i64 a0_8) := (blk_cell BK158.out 8).trans rfl; have hcz27_9 : w25.cell? ⟨gb158, 9, none⟩ = some (.slice A0_9 l0_9.length c0_9) := (blk_cell BK158.out 9).trans rfl; have hcz27_10 : w25.cell? ⟨gb158, 10, none⟩ = some (.int .i64 a0_10) := (blk_cell BK158.out 10).trans rfl; have hcz27_11 : w25.cell? ⟨gb158, 11, none⟩ = some (.int .i64 a0_11) := (blk_cell BK158.out 11).trans rfl; have hcz27_12 : w25.cell? ⟨gb158, 12, none⟩ = some (.int .i64 a0_12) := (blk_cell BK158.out 12).trans rfl; have hcz27_13 : w25.cell? ⟨gb158, 13, none⟩ = some (.bool a0_13) := (blk_cell BK158.out 13).trans rfl; have hfz27_0 := blk_frozen BK158.out 0; have hfz27_1 := blk_frozen BK158.out 1; have hfz27_2 := blk_frozen BK158.out 2; have hfz27_3 := blk_frozen BK158.out 3; have hfz27_4 := blk_frozen BK158.out 4; have hfz27_5 := blk_frozen BK158.out 5; have hfz27_6 := blk_frozen BK158.out 6; have hfz27_7 := blk_frozen BK158.out 7; have hfz27_8 := blk_frozen BK158.out 8; have hfz27_9 := blk_frozen BK158.out 9; have hfz27_10 := blk_frozen BK158.out 10; have hfz27_11 := blk_frozen BK158.out 11; have hfz27_12 := blk_frozen BK158.out 12; have hfz27_13 := blk_frozen BK158.out 13; have hcz28_0 : w25.cell? ⟨gb159, 0, none⟩ = some (.string a1_0) := (blk_cell BK159.out 0).trans rfl; have hcz28_1 : w25.cell? ⟨gb159, 1, none⟩ = some (.int .i64 a1_1) := (blk_cell BK159.out 1).trans rfl; have hcz28_2 : w25.cell? ⟨gb159, 2, none⟩ = some (.slice A1_2 l1_2.length c1_2) := (blk_cell BK159.out 2).trans rfl; have hcz28_3 : w25.cell? ⟨gb159, 3, none⟩ = some (.string a1_3) := (blk_cell BK159.out 3).trans rfl; have hcz28_4 : w25.cell? ⟨gb159, 4, none⟩ = some (.int .i64 a1_4) := (blk_cell BK159.out 4).trans rfl; have hcz28_5 : w25.cell? ⟨gb159, 5, none⟩ = some (.int .i64 a1_5) := (blk_cell BK159.out 5).trans rfl; have hcz28_6 : w25.cell? ⟨gb159, 6, none⟩ = some (.string a1_6) := (blk_cell BK159.out 6).trans rfl; have hcz28_7 : w25.cell? ⟨gb159, 7, none⟩ = some (.int .i64 a1_7) := (blk_cell BK159.out 7).trans rfl; have hcz28_8 : w25.cell? ⟨gb159, 8, none⟩ = some (.int .i64 a1_8) := (blk_cell BK159.out 8).trans rfl; have hcz28_9 : w25.cell? ⟨gb159, 9, none⟩ = some (.slice A1_9 l1_9.length c1_9) := (blk_cell BK159.out 9).trans rfl; have hcz28_10 : w25.cell? ⟨gb159, 10, none⟩ = some (.int .i64 a1_10) := (blk_cell BK159.out 10).trans rfl; have hcz28_11 : w25.cell? ⟨gb159, 11, none⟩ = some (.int .i64 a1_11) := (blk_cell BK159.out 11).trans rfl; have hcz28_12 : w25.cell? ⟨gb159, 12, none⟩ = some (.int .i64 a1_12) := (blk_cell BK159.out 12).trans rfl; have hcz28_13 : w25.cell? ⟨gb159, 13, none⟩ = some (.bool a1_13) := (blk_cell BK159.out 13).trans rfl; have hfz28_0 := blk_frozen BK159.out 0; have hfz28_1 := blk_frozen BK159.out 1; have hfz28_2 := blk_frozen BK159.out 2; have hfz28_3 := blk_frozen BK159.out 3; have hfz28_4 := blk_frozen BK159.out 4; have hfz28_5 := blk_frozen BK159.out 5; have hfz28_6 := blk_frozen BK159.out 6; have hfz28_7 := blk_frozen BK159.out 7; have hfz28_8 := blk_frozen BK159.out 8; have hfz28_9 := blk_frozen BK159.out 9; have hfz28_10 := blk_frozen BK159.out 10; have hfz28_11 := blk_frozen BK159.out 11; have hfz28_12 := blk_frozen BK159.out 12; have hfz28_13 := blk_frozen BK159.out 13))
        go_ret
        exact ⟨by first | rfl | (simp [errW_none, errW_some] <;> rfl) | (simp [*, errW_none, errW_some] <;> rfl), by repeat (first | (with_reducible first | exact HB.out | apply below_alloc | apply pw_below_drewN | apply below_drew1 | refine below_set ?_ GE158.out | refine below_set ?_ GE159.out) | exact HB.out)⟩
    · rw [if_neg c4] at H
      have c4b0 : (a0_12 == a1_12) = false := beq_eq_false_iff_ne.mpr c4
      have c4b1 : (a0_12 != a1_12) = true := bne_iff_ne.mpr c4
      obtain rfl := Option.some.inj H
      go_enter Try.func23, Try.ntmps23
      go_wp2_with (first | ((with_reducible refine gate_dst (N := 2) rfl ?_); refine box_event ?hg (N := 2) ?hd (cs := #[.string a0_0, .int .i64 a0_1, .slice A0_2 l0_2.length c0_2, .string a0_3, .int .i64 a0_4, .int .i64 a0_5, .string a0_6, .int .i64 a0_7, .int .i64 a0_8, .slice A0_9 l0_9.length c0_9, .int .i64 a0_10, .int .i64 a0_11, .int .i64 a0_12, .bool a0_13]) (t := 35) ?hr ?_; (case hd => rfl); (case hg => rfl); (case hr => first | (go_simp; done) | (go_simp; rfl)); intro gb158 hg w29 hbox hb; have n0_ := Aside0.mk (below_step (by repeat (first | (with_reducible first | exact HB.out | apply below_alloc | apply pw_below_drewN | apply below_drew1) | exact HB.out)) hb); have n1_ := Aside0.mk (hbox); have n2_ := Aside0.mk ((by rw [hg]; exact (below_size (by repeat (first | (with_reducible first | exact HB.out | apply below_alloc | apply pw_below_drewN | apply below_drew1) | exact HB.out))) : w.heap.size ≤ gb158)); have n3_ := Aside0.mk ((by rw [hg]; exact (below_size (by repeat (first | (with_reducible first | exact HB.out | apply below_alloc | apply pw_below_drewN | apply below_drew1) | exact HB.out))) : w.heap.size ≤ gb158)); clear HB; have HB := n0_; have BK158 := n1_; have GW158 := n2_; have GE158 := n3_; clear n0_ n1_ n2_ n3_; clear hb hbox hg) | ((with_reducible refine gate_dst (N := 3) rfl ?_); refine box_event ?hg (N := 3) ?hd (cs := #[.string a1_0, .int .i64 a1_1, .slice A1_2 l1_2.length c1_2, .string a1_3, .int .i64 a1_4, .int .i64 a1_5, .string a1_6, .int .i64 a1_7, .int .i64 a1_8, .slice A1_9 l1_9.length c1_9, .int .i64 a1_10, .int .i64 a1_11, .int .i64 a1_12, .bool a1_13]) (t := 35) ?hr ?_; (case hd => rfl); (case hg => rfl); (case hr => first | (go_simp; done) | (go_simp; rfl)); intro gb159 hg w30 hbox hb; have n0_ := Aside0.mk (blk_below (g := gb158) (o := .cells #[.string a0_0, .int .i64 a0_1, .slice A0_2 l0_2.length c0_2, .string a0_3, .int .i64 a0_4, .int .i64 a0_5, .string a0_6, .int .i64 a0_7, .int .i64 a0_8, .slice A0_9 l0_9.length c0_9, .int .i64 a0_10, .int .i64 a0_11, .int .i64 a0_12, .bool a0_13] 35 (0, 0)) (by (with_reducible repeat (first | refine blk_drewN ?_ _ | refine blk_drew ?_ | refine blk_alloc ?_ _)); exact BK158.out) hb); have n1_ := Aside0.mk (below_step (by repeat (first | (with_reducible first | exact HB.out | apply below_alloc | apply pw_below_drewN | apply below_drew1 | refine below_set ?_ GE158.out) | exact HB.out)) hb); have n2_ := Aside0.mk (hbox); have n3_ := Aside0.mk ((by rw [hg]; exact (below_size (by repeat (first | (with_reducible first | exact HB.out | apply below_alloc | apply pw_below_drewN | apply below_drew1 | refine below_set ?_ GE158.out) | exact HB.out))) : w.heap.size ≤ gb159)); have n4_ := Aside0.mk ((by rw [hg]; exact (below_size (by repeat (first | (with_reducible first | exact HB.out | apply below_alloc | apply pw_below_drewN | apply below_drew1 | refine below_set ?_ GE158.out) | exact HB.out))) : w.heap.size ≤ gb159)); have n5_ := Aside0.mk ((by rw [hg]; exact Nat.ne_of_lt (blk_lt (g := gb158) (o := .cells #[.string a0_0, .int .i64 a0_1, .slice A0_2 l0_2.length c0_2, .string a0_3, .int .i64 a0_4, .int .i64 a0_5, .string a0_6, .int .i64 a0_7, .int .i64 a0_8, .slice A0_9 l0_9.length c0_9, .int .i64 a0_10, .int .i64 a0_11, .int .i64 a0_12, .bool a0_13] 35 (0, 0)) (by (with_reducible repeat (first | refine blk_drewN ?_ _ | refine blk_drew ?_ | refine blk_alloc ?_ _)); exact BK158.out)) : gb158 ≠ gb159)); have n6_ := Aside0.mk ((by rw [hg]; exact Nat.ne_of_gt (blk_lt (g := gb158) (o := .cells #[.string a0_0, .int .i64 a0_1, .slice A0_2 l0_2.length c0_2, .string a0_3, .int .i64 a0_4, .int .i64 a0_5, .string a0_6, .int .i64 a0_7, .int .i64 a0_8, .slice A0_9 l0_9.length c0_9, .int .i64 a0_10, .int .i64 a0_11, .int .i64 a0_12, .bool a0_13] 35 (0, 0)) (by (with_reducible repeat (first | refine blk_drewN ?_ _ | refine blk_drew ?_ | refine blk_alloc ?_ _)); exact BK158.out)) : gb159 ≠ gb158)); clear BK158; clear HB; have BK158 := n0_; have HB := n1_; have BK159 := n2_; have GW159 := n3_; have GE159 := n4_; have NB158_159 := n5_; have NB159_158 := n6_; clear n0_ n1_ n2_ n3_ n4_ n5_ n6_; clear hb hbox hg; have hnb31 := NB158_159.out; have hnc31 := NB159_158.out; have hcz32_0 : w30.cell? ⟨gb158, 0, none⟩ = some (.string a0_0) := (blk_cell BK158.out 0).trans rfl; have hcz32_1 : w30.cell? ⟨gb158, 1, none⟩ = some (.int .i64 a0_1) := (blk_cell BK158.out 1).trans rfl; have hcz32_2 : w30.cell? ⟨gb158, 2, none⟩ = some (.slice A0_2 l0_2.length c0_2) := (blk_cell BK158.out 2).trans rfl; have hcz32_3 : w30.cell? ⟨gb158, 3, none⟩ = some (.string a0_3) := (blk_cell BK158.out 3).trans rfl; have hcz32_4 : w30.cell? ⟨gb158, 4, none⟩ = some (.int .i64 a0_4) := (blk_cell BK158.out 4).trans rfl; have hcz32_5 : w30.cell? ⟨gb158, 5, none⟩ = some (.int .i64 a0_5) := (blk_cell BK158.out 5).trans rfl; have hcz32_6 : w30.cell? ⟨gb158, 6, none⟩ = some (.string a0_6) := (blk_cell BK158.out 6).trans rfl; have hcz32_7 : w30.cell? ⟨gb158, 7, none⟩ = some (.int .i64 a0_7) := (blk_cell BK158.out 7).trans rfl; have hcz32_8 : w30.cell? ⟨gb158, 8, none⟩ = some (.int .i64 a0_8) := (blk_cell BK158.out 8).trans rfl; have hcz32_9 : w30.cell? ⟨gb158, 9, none⟩ = some (.slice A0_9 l0_9.length c0_9) := (blk_cell BK158.out 9).trans rfl; have hcz32_10 : w30.cell? ⟨gb158, 10, none⟩ = some (.int .i64 a0_10) := (blk_cell BK158.out 10).trans rfl; have hcz32_11 : w30.cell? ⟨gb158, 11, none⟩ = some (.int .i64 a0_11) := (blk_cell BK158.out 11).trans rfl; have hcz32_12 : w30.cell? ⟨gb158, 12, none⟩ = some (.int .i64 a0_12) := (blk_cell BK158.out 12).trans rfl; have hcz32_13 : w30.cell? ⟨gb158, 13, none⟩ = some (.bool a0_13) := (blk_cell BK158.out 13).trans rfl; have hfz32_0 := blk_frozen BK158.out 0; have hfz32_1 := blk_frozen BK158.out 1; have hfz32_2 := blk_frozen BK158.out 2; have hfz32_3 := blk_frozen BK158.out 3; have hfz32_4 := blk_frozen BK158.out 4; have hfz32_5 := blk_frozen BK158.out 5; have hfz32_6 := blk_frozen BK158.out 6; have hfz32_7 := blk_frozen BK158.out 7; have hfz32_8 := blk_frozen BK158.out 8; have hfz32_9 := blk_frozen BK158.out 9; have hfz32_10 := blk_frozen BK158.out 10; have hfz32_11 := blk_frozen BK158.out 11; have hfz32_12 := blk_frozen BK158.out 12; have hfz32_13 := blk_frozen BK158.out 13; have hcz33_0 : w30.cell? ⟨gb159, 0, none⟩ = some (.string a1_0) := (blk_cell BK159.out 0).trans rfl; have hcz33_1 : w30.cell? ⟨gb159, 1, none⟩ = some (.int .i64 a1_1) := (blk_cell BK159.out 1).trans rfl; have hcz33_2 : w30.cell? ⟨gb159, 2, none⟩ = some (.slice A1_2 l1_2.length c1_2) := (blk_cell BK159.out 2).trans rfl; have hcz33_3 : w30.cell? ⟨gb159, 3, none⟩ = some (.string a1_3) := (blk_cell BK159.out 3).trans rfl; have hcz33_4 : w30.cell? ⟨gb159, 4, none⟩ = some (.int .i64 a1_4) := (blk_cell BK159.out 4).trans rfl; have hcz33_5 : w30.cell? ⟨gb159, 5, none⟩ = some (.int .i64 a1_5) := (blk_cell BK159.out 5).trans rfl; have hcz33_6 : w30.cell? ⟨gb159, 6, none⟩ = some (.string a1_6) := (blk_cell BK159.out 6).trans rfl; have hcz33_7 : w30.cell? ⟨gb159, 7, none⟩ = some (.int .i64 a1_7) := (blk_cell BK159.out 7).trans rfl; have hcz33_8 : w30.cell? ⟨gb159, 8, none⟩ = some (.int .i64 a1_8) := (blk_cell BK159.out 8).trans rfl; have hcz33_9 : w30.cell? ⟨gb159, 9, none⟩ = some (.slice A1_9 l1_9.length c1_9) := (blk_cell BK159.out 9).trans rfl; have hcz33_10 : w30.cell? ⟨gb159, 10, none⟩ = some (.int .i64 a1_10) := (blk_cell BK159.out 10).trans rfl; have hcz33_11 : w30.cell? ⟨gb159, 11, none⟩ = some (.int .i64 a1_11) := (blk_cell BK159.out 11).trans rfl; have hcz33_12 : w30.cell? ⟨gb159, 12, none⟩ = some (.int .i64 a1_12) := (blk_cell BK159.out 12).trans rfl; have hcz33_13 : w30.cell? ⟨gb159, 13, none⟩ = some (.bool a1_13) := (blk_cell BK159.out 13).trans rfl; have hfz33_0 := blk_frozen BK159.out 0; have hfz33_1 := blk_frozen BK159.out 1; have hfz33_2 := blk_frozen BK159.out 2; have hfz33_3 := blk_frozen BK159.out 3; have hfz33_4 := blk_frozen BK159.out 4; have hfz33_5 := blk_frozen BK159.out 5; have hfz33_6 := blk_frozen BK159.out 6; have hfz33_7 := blk_frozen BK159.out 7; have hfz33_8 := blk_frozen BK159.out 8; have hfz33_9 := blk_frozen BK159.out 9; have hfz33_10 := blk_frozen BK159.out 10; have hfz33_11 := blk_frozen BK159.out 11; have hfz33_12 := blk_frozen BK159.out 12; have hfz33_13 := blk_frozen BK159.out 13))
      go_ret
      exact ⟨by first | rfl | (simp [errW_none, errW_some] <;> rfl) | (simp [*, errW_none, errW_some] <;> rfl), by repeat (first | (with_reducible first | exact HB.out | apply below_alloc | apply pw_below_drewN | apply below_drew1 | refine below_set ?_ GE158.out | refine below_set ?_ GE159.out) | exact HB.out)⟩
  · rw [if_neg c3] at H
    have c3b0 : (a0_11 == a1_11) = false := beq_eq_false_iff_ne.mpr c3
    have c3b1 : (a0_11 != a1_11) = true := bne_iff_ne.mpr c3
    obtain rfl := Option.some.inj H
    go_enter Try.func23, Try.ntmps23
    go_wp2_with (first | ((with_reducible refine gate_dst (N := 2) rfl ?_); refine box_event ?hg (N := 2) ?hd (cs := #[.string a0_0, .int .i64 a0_1, .slice A0_2 l0_2.length c0_2, .string a0_3, .int .i64 a0_4, .int .i64 a0_5, .string a0_6, .int .i64 a0_7, .int .i64 a0_8, .slice A0_9 l0_9.length c0_9, .int .i64 a0_10, .int .i64 a0_11, .int .i64 a0_12, .bool a0_13]) (t := 35) ?hr ?_; (case hd => rfl); (case hg => rfl); (case hr => first | (go_simp; done) | (go_simp; rfl)); intro gb158 hg w34 hbox hb; have n0_ := Aside0.mk (below_step (by repeat (first | (with_reducible first | exact HB.out | apply below_alloc | apply pw_below_drewN | apply below_drew1) | exact HB.out)) hb); have n1_ := Aside0.mk (hbox); have n2_ := Aside0.mk ((by rw [hg]; exact (below_size (by repeat (first | (with_reducible first | exact HB.out | apply below_alloc | apply pw_below_drewN | apply below_drew1) | exact HB.out))) : w.heap.size ≤ gb158)); have n3_ := Aside0.mk ((by rw [hg]; exact (below_size (by repeat (first | (with_reducible first | exact HB.out | apply below_alloc | apply pw_below_drewN | apply below_drew1) | exact HB.out))) : w.heap.size ≤ gb158)); clear HB; have HB := n0_; have BK158 := n1_; have GW158 := n2_; have GE158 := n3_; clear n0_ n1_ n2_ n3_; clear hb hbox hg) | ((with_reducible refine gate_dst (N := 3) rfl ?_); refine box_event ?hg (N := 3) ?hd (cs := #[.string a1_0, .int .i64 a1_1, .slice A1_2 l1_2.length c1_2, .string a1_3, .int .i64 a1_4, .int .i64 a1_5, .string a1_6, .int .i64 a1_7, .int .i64 a1_8, .slice A1_9 l1_9.length c1_9, .int .i64 a1_10, .int .i64 a1_11, .int .i64 a1_12, .bool a1_13]) (t := 35) ?hr ?_; (case hd => rfl); (case hg => rfl); (case hr => first | (go_simp; done) | (go_simp; rfl)); intro gb159 hg w35 hbox hb; have n0_ := Aside0.mk (blk_below (g := gb158) (o := .cells #[.string a0_0, .int .i64 a0_1, .slice A0_2 l0_2.length c0_2, .string a0_3, .int .i64 a0_4, .int .i64 a0_5, .string a0_6, .int .i64 a0_7, .int .i64 a0_8, .slice A0_9 l0_9.length c0_9, .int .i64 a0_10, .int .i64 a0_11, .int .i64 a0_12, .bool a0_13] 35 (0, 0)) (by (with_reducible repeat (first | refine blk_drewN ?_ _ | refine blk_drew ?_ | refine blk_alloc ?_ _)); exact BK158.out) hb); have n1_ := Aside0.mk (below_step (by repeat (first | (with_reducible first | exact HB.out | apply below_alloc | apply pw_below_drewN | apply below_drew1 | refine below_set ?_ GE158.out) | exact HB.out)) hb); have n2_ := Aside0.mk (hbox); have n3_ := Aside0.mk ((by rw [hg]; exact (below_size (by repeat (first | (with_reducible first | exact HB.out | apply below_alloc | apply pw_below_drewN | apply below_drew1 | refine below_set ?_ GE158.out) | exact HB.out))) : w.heap.size ≤ gb159)); have n4_ := Aside0.mk ((by rw [hg]; exact (below_size (by repeat (first | (with_reducible first | exact HB.out | apply below_alloc | apply pw_below_drewN | apply below_drew1 | refine below_set ?_ GE158.out) | exact HB.out))) : w.heap.size ≤ gb159)); have n5_ := Aside0.mk ((by rw [hg]; exact Nat.ne_of_lt (blk_lt (g := gb158) (o := .cells #[.string a0_0, .int .i64 a0_1, .slice A0_2 l0_2.length c0_2, .string a0_3, .int .i64 a0_4, .int .i64 a0_5, .string a0_6, .int .i64 a0_7, .int .i64 a0_8, .slice A0_9 l0_9.length c0_9, .int .i64 a0_10, .int .i64 a0_11, .int .i64 a0_12, .bool a0_13] 35 (0, 0)) (by (with_reducible repeat (first | refine blk_drewN ?_ _ | refine blk_drew ?_ | refine blk_alloc ?_ _)); exact BK158.out)) : gb158 ≠ gb159)); have n6_ := Aside0.mk ((by rw [hg]; exact Nat.ne_of_gt (blk_lt (g := gb158) (o := .cells #[.string a0_0, .int .i64 a0_1, .slice A0_2 l0_2.length c0_2, .string a0_3, .int .i64 a0_4, .int .i64 a0_5, .string a0_6, .int .i64 a0_7, .int .i64 a0_8, .slice A0_9 l0_9.length c0_9, .int .i64 a0_10, .int .i64 a0_11, .int .i64 a0_12, .bool a0_13] 35 (0, 0)) (by (with_reducible repeat (first | refine blk_drewN ?_ _ | refine blk_drew ?_ | refine blk_alloc ?_ _)); exact BK158.out)) : gb159 ≠ gb158)); clear BK158; clear HB; have BK158 := n0_; have HB := n1_; have BK159 := n2_; have GW159 := n3_; have GE159 := n4_; have NB158_159 := n5_; have NB159_158 := n6_; clear n0_ n1_ n2_ n3_ n4_ n5_ n6_; clear hb hbox hg; have hnb36 := NB158_159.out; have hnc36 := NB159_158.out; have hcz37_0 : w35.cell? ⟨gb158, 0, none⟩ = some (.string a0_0) := (blk_cell BK158.out 0).trans rfl; have hcz37_1 : w35.cell? ⟨gb158, 1, none⟩ = some (.int .i64 a0_1) := (blk_cell BK158.out 1).trans rfl; have hcz37_2 : w35.cell? ⟨gb158, 2, none⟩ = some (.slice A0_2 l0_2.length c0_2) := (blk_cell BK158.out 2).trans rfl; have hcz37_3 : w35.cell? ⟨gb158, 3, none⟩ = some (.string a0_3) := (blk_cell BK158.out 3).trans rfl; have hcz37_4 : w35.cell? ⟨gb158, 4, none⟩ = some (.int .i64 a0_4) := (blk_cell BK158.out 4).trans rfl; have hcz37_5 : w35.cell? ⟨gb158, 5, none⟩ = some (.int .i64 a0_5) := (blk_cell BK158.out 5).trans rfl; have hcz37_6 : w35.cell? ⟨gb158, 6, none⟩ = some (.string a0_6) := (blk_cell BK158.out 6).trans rfl; have hcz37_7 : w35.cell? ⟨gb158, 7, none⟩ = some (.int .i64 a0_7) := (blk_cell BK158.out 7).trans rfl; have hcz37_8 : w35.cell? ⟨gb158, 8, none⟩ = some (.int .i64 a0_8) := (blk_cell BK158.out 8).trans rfl; have hcz37_9 : w35.cell? ⟨gb158, 9, none⟩ = some (.slice A0_9 l0_9.length c0_9) := (blk_cell BK158.out 9).trans rfl; have hcz37_10 : w35.cell? ⟨gb158, 10, none⟩ = some (.int .i64 a0_10) := (blk_cell BK158.out 10).trans rfl; have hcz37_11 : w35.cell? ⟨gb158, 11, none⟩ = some (.int .i64 a0_11) := (blk_cell BK158.out 11).trans rfl; have hcz37_12 : w35.cell? ⟨gb158, 12, none⟩ = some (.int .i64 a0_12) := (blk_cell BK158.out 12).trans rfl; have hcz37_13 : w35.cell? ⟨gb158, 13, none⟩ = some (.bool a0_13) := (blk_cell BK158.out 13).trans rfl; have hfz37_0 := blk_frozen BK158.out 0; have hfz37_1 := blk_frozen BK158.out 1; have hfz37_2 := blk_frozen BK158.out 2; have hfz37_3 := blk_frozen BK158.out 3; have hfz37_4 := blk_frozen BK158.out 4; have hfz37_5 := blk_frozen BK158.out 5; have hfz37_6 := blk_frozen BK158.out 6; have hfz37_7 := blk_frozen BK158.out 7; have hfz37_8 := blk_frozen BK158.out 8; have hfz37_9 := blk_frozen BK158.out 9; have hfz37_10 := blk_frozen BK158.out 10; have hfz37_11 := blk_frozen BK158.out 11; have hfz37_12 := blk_frozen BK158.out 12; have hfz37_13 := blk_frozen BK158.out 13; have hcz38_0 : w35.cell? ⟨gb159, 0, none⟩ = some (.string a1_0) := (blk_cell BK159.out 0).trans rfl; have hcz38_1 : w35.cell? ⟨gb159, 1, none⟩ = some (.int .i64 a1_1) := (blk_cell BK159.out 1).trans rfl; have hcz38_2 : w35.cell? ⟨gb159, 2, none⟩ = some (.slice A1_2 l1_2.length c1_2) := (blk_cell BK159.out 2).trans rfl; have hcz38_3 : w35.cell? ⟨gb159, 3, none⟩ = some (.string a1_3) := (blk_cell BK159.out 3).trans rfl; have hcz38_4 : w35.cell? ⟨gb159, 4, none⟩ = some (.int .i64 a1_4) := (blk_cell BK159.out 4).trans rfl; have hcz38_5 : w35.cell? ⟨gb159, 5, none⟩ = some (.int .i64 a1_5) := (blk_cell BK159.out 5).trans rfl; have hcz38_6 : w35.cell? ⟨gb159, 6, none⟩ = some (.string a1_6) := (blk_cell BK159.out 6).trans rfl; have hcz38_7 : w35.cell? ⟨gb159, 7, none⟩ = some (.int .i64 a1_7) := (blk_cell BK159.out 7).trans rfl; have hcz38_8 : w35.cell? ⟨gb159, 8, none⟩ = some (.int .i64 a1_8) := (blk_cell BK159.out 8).trans rfl; have hcz38_9 : w35.cell? ⟨gb159, 9, none⟩ = some (.slice A1_9 l1_9.length c1_9) := (blk_cell BK159.out 9).trans rfl; have hcz38_10 : w35.cell? ⟨gb159, 10, none⟩ = some (.int .i64 a1_10) := (blk_cell BK159.out 10).trans rfl; have hcz38_11 : w35.cell? ⟨gb159, 11, none⟩ = some (.int .i64 a1_11) := (blk_cell BK159.out 11).trans rfl; have hcz38_12 : w35.cell? ⟨gb159, 12, none⟩ = some (.int .i64 a1_12) := (blk_cell BK159.out 12).trans rfl; have hcz38_13 : w35.cell? ⟨gb159, 13, none⟩ = some (.bool a1_13) := (blk_cell BK159.out 13).trans rfl; have hfz38_0 := blk_frozen BK159.out 0; have hfz38_1 := blk_frozen BK159.out 1; have hfz38_2 := blk_frozen BK159.out 2; have hfz38_3 := blk_frozen BK159.out 3; have hfz38_4 := blk_frozen BK159.out 4; have hfz38_5 := blk_frozen BK159.out 5; have hfz38_6 := blk_frozen BK159.out 6; have hfz38_7 := blk_frozen BK159.out 7; have hfz38_8 := blk_frozen BK159.out 8; have hfz38_9 := blk_frozen BK159.out 9; have hfz38_10 := blk_frozen BK159.out 10; have hfz38_11 := blk_frozen BK159.out 11; have hfz38_12 := blk_frozen BK159.out 12; have hfz38_13 := blk_frozen BK159.out 13))
    go_ret
    exact ⟨by first | rfl | (simp [errW_none, errW_some] <;> rfl) | (simp [*, errW_none, errW_some] <;> rfl), by repeat (first | (with_reducible first | exact HB.out | apply below_alloc | apply pw_below_drewN | apply below_drew1 | refine below_set ?_ GE158.out | refine below_set ?_ GE159.out) | exact HB.out)⟩

/-! ### larderlaw16_sameOps: function 14 -/
def larderlaw16_sameOps.l0 : Nat → List (S35) → List (S35) → Int → Option (Bool)
  | 0, _, _, _ => none
  | k + 1, x0, x1, x5 => if x5 < (x0.length : Int) then (if 0 ≤ x5 then (if x5 < (x1.length : Int) then ((larderlaw16_sameOp.f k ((rd_T35 x0 x5).f0.f0) ((rd_T35 x0 x5).f0.f1) ((rd_T35 x0 x5).f0.f2) ((rd_T35 x0 x5).f0.f3) ((rd_T35 x0 x5).f0.f4) ((rd_T35 x0 x5).f0.f5) ((rd_T35 x0 x5).f1.f0) ((rd_T35 x0 x5).f1.f1) ((rd_T35 x0 x5).f1.f2) ((rd_T35 x0 x5).f1.f3) ((rd_T35 x0 x5).f1.f4) ((rd_T35 x0 x5).f2) ((rd_T35 x0 x5).f3) ((rd_T35 x0 x5).f4) ((rd_T35 x1 x5).f0.f0) ((rd_T35 x1 x5).f0.f1) ((rd_T35 x1 x5).f0.f2) ((rd_T35 x1 x5).f0.f3) ((rd_T35 x1 x5).f0.f4) ((rd_T35 x1 x5).f0.f5) ((rd_T35 x1 x5).f1.f0) ((rd_T35 x1 x5).f1.f1) ((rd_T35 x1 x5).f1.f2) ((rd_T35 x1 x5).f1.f3) ((rd_T35 x1 x5).f1.f4) ((rd_T35 x1 x5).f2) ((rd_T35 x1 x5).f3) ((rd_T35 x1 x5).f4)).bind fun t164 => (if t164 = true then (larderlaw16_sameOps.l0 k x0 x1 (wrap64 (x5 + 1))) else (some false))) else (none)) else (none)) else (some true)
def larderlaw16_sameOps.f (k : Nat) (l0 : List (S35)) (l1 : List (S35)) : Option (Bool) := if (l0.length : Int) = (l1.length : Int) then (larderlaw16_sameOps.l0 k l0 l1 0) else (some false)
theorem larderlaw16_sameOps.mono_l : ∀ k, (∀ y0 y1 y2, LeO (larderlaw16_sameOps.l0 k y0 y1 y2) (larderlaw16_sameOps.l0 (k + 1) y0 y1 y2))
  | 0 => fun _ _ _ r h => by simp [larderlaw16_sameOps.l0] at h
  | k + 1 => by
    have ih0 := larderlaw16_sameOps.mono_l k
    · intro y0 y1 y2
      unfold larderlaw16_sameOps.l0
      repeat' first
      | (with_reducible exact ih0 _ _ _)
      | (with_reducible exact larderlaw16_sameOp.mono _ _ _ _ _ _ _ _ _ _ _ _ _ _ _ _ _ _ _ _ _ _ _ _ _ _ _ _ _)
      | (with_reducible exact LeO.refl _)
      | (with_reducible exact LeO.none _)
      | (with_reducible refine LeO.ite ?_ ?_)
      | (with_reducible refine LeO.bind ?_ (fun _ => ?_))
      | exact ih0 _ _ _
      | exact larderlaw16_sameOp.mono _ _ _ _ _ _ _ _ _ _ _ _ _ _ _ _ _ _ _ _ _ _ _ _ _ _ _ _ _
      | exact LeO.none _
      | refine LeO.ite ?_ ?_
      | refine LeO.bind ?_ (fun _ => ?_)
theorem larderlaw16_sameOps.mono : ∀ a0 a1 k, LeO (larderlaw16_sameOps.f k a0 a1) (larderlaw16_sameOps.f (k + 1) a0 a1) := by
  intro a0 a1 k
  have ih0 := larderlaw16_sameOps.mono_l k
  unfold larderlaw16_sameOps.f
  repeat' first
      | (with_reducible exact ih0 _ _ _)
      | (with_reducible exact larderlaw16_sameOp.mono _ _ _ _ _ _ _ _ _ _ _ _ _ _ _ _ _ _ _ _ _ _ _ _ _ _ _ _ _)
      | (with_reducible exact LeO.refl _)
      | (with_reducible exact LeO.none _)
      | (with_reducible refine LeO.ite ?_ ?_)
      | (with_reducible refine LeO.bind ?_ (fun _ => ?_))
      | exact ih0 _ _ _
      | exact larderlaw16_sameOp.mono _ _ _ _ _ _ _ _ _ _ _ _ _ _ _ _ _ _ _ _ _ _ _ _ _ _ _ _ _
      | exact LeO.none _
      | refine LeO.ite ?_ ?_
      | refine LeO.bind ?_ (fun _ => ?_)
def larderlaw16_sameOps.T6 : Bool × List (List Nat × List Nat) := (true, [([], []), ([], []), ([0, 1], [0, 1]), ([2], [2]), ([], []), ([], []), ([4, 5], [4, 5]), ([6], [6]), ([3, 7], [3, 7]), ([8], [8])])
def larderlaw16_sameOps.B6 : List Nat := [0, 0, 3, 7, 0, 0, 48, 112, 255, 511]
theorem larderlaw16_sameOps.tab6 : rtab .any (opsOf Try.f14 6) = larderlaw16_sameOps.T6 := by kernel_rfl
theorem larderlaw16_sameOps.bits6 : waitsOk larderlaw16_sameOps.T6.2 larderlaw16_sameOps.B6 = true := by kernel_rfl
set_option maxHeartbeats 8000000 in
set_option maxRecDepth 100000 in
theorem larderlaw16_sameOps.calls (k : Nat) (A0 : Option Addr) (c0 : Nat) (l0 : List (S35)) (A1 : Option Addr) (c1 : Nat) (l1 : List (S35)) (r : Bool) (w : World) (hr0 : Kd.C k35 w A0 l0.length l0) (hc0 : l0.length ≤ c0) (hr1 : Kd.C k35 w A1 l1.length l1) (hc1 : l1.length ≤ c1) (h : larderlaw16_sameOps.f k l0 l1 = some r) :
    Calls Try.prog 14 #[.slice A0 l0.length c0, .slice A1 l1.length c1] w fun e w' => e = .returned (.bool r) ∧ Below w.heap.size w w' := by
  have hu35 := Try.underlying35
  have HR0 := Aside0.mk hr0
  have HC0 := Aside0.mk hc0
  clear hr0 hc0
  have HR1 := Aside0.mk hr1
  have HC1 := Aside0.mk hc1
  clear hr1 hc1
  have HB := Aside0.mk (Below.refl w.heap.size w)
  have H : (if (l0.length : Int) = (l1.length : Int) then (larderlaw16_sameOps.l0 k l0 l1 0) else (some false)) = some r := h
  clear h
  by_cases c3 : (l0.length : Int) = (l1.length : Int)
  · rw [if_pos c3] at H
    have c3b0 : ((l0.length : Int) == (l1.length : Int)) = true := beq_iff_eq.mpr c3
    have c3b1 : ((l0.length : Int) != (l1.length : Int)) = false := bne_eq_false_iff_eq.mpr c3
    have c3b2 : (l0.length == l1.length) = true := by first | simpa using c3 | (simp at c3 ⊢; omega)
    clear c3
    have H' := Aside0.mk H
    clear H
    go_enter Try.func14, Try.ntmps14
    go_wp2
    go_loopg [5] k (fun kq v5 w' => ∃ (x5_1 : Int), v5 = .int .i64 x5_1 ∧ Aside0 (larderlaw16_sameOps.l0 kq l0 l1 x5_1 = some r) ∧ Aside0 (kq ≤ k) ∧ Aside0 (Below w.heap.size w w'))
    case atStart => exact ⟨(0), (by first | rfl | (simp; done) | (simp [*]; done)), H', ⟨Nat.le_refl _⟩, ⟨by repeat (first | (with_reducible first | exact HB.out | apply below_alloc | apply pw_below_drewN | apply below_drew1) | exact HB.out)⟩⟩
    case round =>
      clear H'
      try clear c1
      try clear p2
      try clear c3
      try clear c3b0
      try clear c3b1
      try clear c3b2
      obtain ⟨x5_1, rfl, HA, HK1, HB⟩ := hrel
      cases gk with
      | zero => exact absurd HA.out (by simp [larderlaw16_sameOps.l0])
      | succ k1 =>
        have H := HA.out
        clear HA
        simp only [larderlaw16_sameOps.l0] at H
        by_cases c4 : x5_1 < (l0.length : Int)
        · rw [if_pos c4] at H
          have c4b0 : decide (x5_1 < (l0.length : Int)) = true := decide_eq_true c4
          clear c4
          by_cases c5 : 0 ≤ x5_1
          · rw [if_pos c5] at H
            have c5b0 : decide (0 ≤ x5_1) = true := decide_eq_true c5
            clear c5
            by_cases c6 : x5_1 < (l1.length : Int)
            · rw [if_pos c6] at H
              have c6b0 : decide (x5_1 < (l1.length : Int)) = true := decide_eq_true c6
              clear c6
              replace H := Option.bind_eq_some_iff.mp H
              obtain ⟨t164, A70, H⟩ := H
              replace H : (if t164 = true then (larderlaw16_sameOps.l0 k1 l0 l1 (wrap64 (x5_1 + 1))) else (some false)) = some r := H
              have A7 := Aside0.mk A70
              clear A70
              by_cases c8 : t164 = true
              · subst c8
                have H1 : (larderlaw16_sameOps.l0 k1 l0 l1 (wrap64 (x5_1 + 1))) = some r := by rw [if_pos rfl] at H; exact H
                clear H
                have H := H1
                clear H1
                have H' := Aside0.mk H
                clear H
                try go_wp2
                have n0_ := Aside0.mk (below_drew1 HB.out)
                clear HB
                have HB := n0_
                clear n0_
                have p162 : 0 ≤ (x5_1 : Int) := of_decide_eq_true (by first | (with_reducible assumption) | assumption)
                have q162 : x5_1 < (l0.length : Int) := of_decide_eq_true (by first | (with_reducible assumption) | assumption)
                obtain ⟨ad162, A162_2, c162_2, A162_9, c162_9, e162, hx162_0, hx162_1, hx162_2, hx162_3, hx162_4, hx162_5, hx162_6, hx162_7, hx162_8, hx162_9, hx162_10, hx162_11, hx162_12, hx162_13, hl162_2, hi162_2, hl162_9, hi162_9⟩ := at_T35 HR0.out x5_1 p162 q162
                have hw162_13 := hx162_13
                have hw162_12 := hx162_12
                have hw162_11 := hx162_11
                have hw162_10 := hx162_10
                have hw162_9 := hx162_9
                have hw162_8 := hx162_8
                have hw162_7 := hx162_7
                have hw162_6 := hx162_6
                have hw162_5 := hx162_5
                have hw162_4 := hx162_4
                have hw162_3 := hx162_3
                have hw162_2 := hx162_2
                have hw162_1 := hx162_1
                have hw162_0 := hx162_0
                cases e162
                replace hx162_0 := (HB.out.cell (World.block_lt_of_cell? w _ hx162_0)).trans hx162_0
                replace hx162_1 := (HB.out.cell (World.block_lt_of_cell? w _ hx162_1)).trans hx162_1
                replace hx162_2 := (HB.out.cell (World.block_lt_of_cell? w _ hx162_2)).trans hx162_2
                replace hx162_3 := (HB.out.cell (World.block_lt_of_cell? w _ hx162_3)).trans hx162_3
                replace hx162_4 := (HB.out.cell (World.block_lt_of_cell? w _ hx162_4)).trans hx162_4
                replace hx162_5 := (HB.out.cell (World.block_lt_of_cell? w _ hx162_5)).trans hx162_5
                replace hx162_6 := (HB.out.cell (World.block_lt_of_cell? w _ hx162_6)).trans hx162_6
                replace hx162_7 := (HB.out.cell (World.block_lt_of_cell? w _ hx162_7)).trans hx162_7
                replace hx162_8 := (HB.out.cell (World.block_lt_of_cell? w _ hx162_8)).trans hx162_8
                replace hx162_9 := (HB.out.cell (World.block_lt_of_cell? w _ hx162_9)).trans hx162_9
                replace hx162_10 := (HB.out.cell (World.block_lt_of_cell? w _ hx162_10)).trans hx162_10
                replace hx162_11 := (HB.out.cell (World.block_lt_of_cell? w _ hx162_11)).trans hx162_11
                replace hx162_12 := (HB.out.cell (World.block_lt_of_cell? w _ hx162_12)).trans hx162_12
                replace hx162_13 := (HB.out.cell (World.block_lt_of_cell? w _ hx162_13)).trans hx162_13
                have HR162_2 := Aside0.mk hi162_2
                have HC162_2 := Aside0.mk hl162_2
                clear hi162_2 hl162_2
                have HR162_9 := Aside0.mk hi162_9
                have HC162_9 := Aside0.mk hl162_9
                clear hi162_9 hl162_9
                replace p162 := eq_true p162
                replace q162 := eq_true q162
                have p163 : 0 ≤ (x5_1 : Int) := of_decide_eq_true (by first | (with_reducible assumption) | assumption)
                have q163 : x5_1 < (l1.length : Int) := of_decide_eq_true (by first | (with_reducible assumption) | assumption)
                obtain ⟨ad163, A163_2, c163_2, A163_9, c163_9, e163, hx163_0, hx163_1, hx163_2, hx163_3, hx163_4, hx163_5, hx163_6, hx163_7, hx163_8, hx163_9, hx163_10, hx163_11, hx163_12, hx163_13, hl163_2, hi163_2, hl163_9, hi163_9⟩ := at_T35 HR1.out x5_1 p163 q163
                have hw163_13 := hx163_13
                have hw163_12 := hx163_12
                have hw163_11 := hx163_11
                have hw163_10 := hx163_10
                have hw163_9 := hx163_9
                have hw163_8 := hx163_8
                have hw163_7 := hx163_7
                have hw163_6 := hx163_6
                have hw163_5 := hx163_5
                have hw163_4 := hx163_4
                have hw163_3 := hx163_3
                have hw163_2 := hx163_2
                have hw163_1 := hx163_1
                have hw163_0 := hx163_0
                cases e163
                replace hx163_0 := (HB.out.cell (World.block_lt_of_cell? w _ hx163_0)).trans hx163_0
                replace hx163_1 := (HB.out.cell (World.block_lt_of_cell? w _ hx163_1)).trans hx163_1
                replace hx163_2 := (HB.out.cell (World.block_lt_of_cell? w _ hx163_2)).trans hx163_2
                replace hx163_3 := (HB.out.cell (World.block_lt_of_cell? w _ hx163_3)).trans hx163_3
                replace hx163_4 := (HB.out.cell (World.block_lt_of_cell? w _ hx163_4)).trans hx163_4
                replace hx163_5 := (HB.out.cell (World.block_lt_of_cell? w _ hx163_5)).trans hx163_5
                replace hx163_6 := (HB.out.cell (World.block_lt_of_cell? w _ hx163_6)).trans hx163_6
                replace hx163_7 := (HB.out.cell (World.block_lt_of_cell? w _ hx163_7)).trans hx163_7
                replace hx163_8 := (HB.out.cell (World.block_lt_of_cell? w _ hx163_8)).trans hx163_8
                replace hx163_9 := (HB.out.cell (World.block_lt_of_cell? w _ hx163_9)).trans hx163_9
                replace hx163_10 := (HB.out.cell (World.block_lt_of_cell? w _ hx163_10)).trans hx163_10
                replace hx163_11 := (HB.out.cell (World.block_lt_of_cell? w _ hx163_11)).trans hx163_11
                replace hx163_12 := (HB.out.cell (World.block_lt_of_cell? w _ hx163_12)).trans hx163_12
                replace hx163_13 := (HB.out.cell (World.block_lt_of_cell? w _ hx163_13)).trans hx163_13
                have HR163_2 := Aside0.mk hi163_2
                have HC163_2 := Aside0.mk hl163_2
                clear hi163_2 hl163_2
                have HR163_9 := Aside0.mk hi163_9
                have HC163_9 := Aside0.mk hl163_9
                clear hi163_9 hl163_9
                replace p163 := eq_true p163
                replace q163 := eq_true q163
                refine start_ (n := 10) (S := fun w' => w'.cell? (ad162.add ((x5_1).toNat * 14)) = some (.string ((rd_T35 l0 x5_1).f0.f0)) ∧ w'.cell? ⟨(ad162.add ((x5_1).toNat * 14)).block, (ad162.add ((x5_1).toNat * 14)).off + 1, none⟩ = some (.int .i64 ((rd_T35 l0 x5_1).f0.f1)) ∧ w'.cell? ⟨(ad162.add ((x5_1).toNat * 14)).block, (ad162.add ((x5_1).toNat * 14)).off + 2, none⟩ = some (.slice A162_2 ((rd_T35 l0 x5_1).f0.f2).length c162_2) ∧ w'.cell? ⟨(ad162.add ((x5_1).toNat * 14)).block, (ad162.add ((x5_1).toNat * 14)).off + 3, none⟩ = some (.string ((rd_T35 l0 x5_1).f0.f3)) ∧ w'.cell? ⟨(ad162.add ((x5_1).toNat * 14)).block, (ad162.add ((x5_1).toNat * 14)).off + 4, none⟩ = some (.int .i64 ((rd_T35 l0 x5_1).f0.f4)) ∧ w'.cell? ⟨(ad162.add ((x5_1).toNat * 14)).block, (ad162.add ((x5_1).toNat * 14)).off + 5, none⟩ = some (.int .i64 ((rd_T35 l0 x5_1).f0.f5)) ∧ w'.cell? ⟨(ad162.add ((x5_1).toNat * 14)).block, (ad162.add ((x5_1).toNat * 14)).off + 6, none⟩ = some (.string ((rd_T35 l0 x5_1).f1.f0)) ∧ w'.cell? ⟨(ad162.add ((x5_1).toNat * 14)).block, (ad162.add ((x5_1).toNat * 14)).off + 7, none⟩ = some (.int .i64 ((rd_T35 l0 x5_1).f1.f1)) ∧ w'.cell? ⟨(ad162.add ((x5_1).toNat * 14)).block, (ad162.add ((x5_1).toNat * 14)).off + 8, none⟩ = some (.int .i64 ((rd_T35 l0 x5_1).f1.f2)) ∧ w'.cell? ⟨(ad162.add ((x5_1).toNat * 14)).block, (ad162.add ((x5_1).toNat * 14)).off + 9, none⟩ = some (.slice A162_9 ((rd_T35 l0 x5_1).f1.f3).length c162_9) ∧ w'.cell? ⟨(ad162.add ((x5_1).toNat * 14)).block, (ad162.add ((x5_1).toNat * 14)).off + 10, none⟩ = some (.int .i64 ((rd_T35 l0 x5_1).f1.f4)) ∧ w'.cell? ⟨(ad162.add ((x5_1).toNat * 14)).block, (ad162.add ((x5_1).toNat * 14)).off + 11, none⟩ = some (.int .i64 ((rd_T35 l0 x5_1).f2)) ∧ w'.cell? ⟨(ad162.add ((x5_1).toNat * 14)).block, (ad162.add ((x5_1).toNat * 14)).off + 12, none⟩ = some (.int .i64 ((rd_T35 l0 x5_1).f3)) ∧ w'.cell? ⟨(ad162.add ((x5_1).toNat * 14)).block, (ad162.add ((x5_1).toNat * 14)).off + 13, none⟩ = some (.bool ((rd_T35 l0 x5_1).f4)) ∧ w'.cell? (ad163.add ((x5_1).toNat * 14)) = some (.string ((rd_T35 l1 x5_1).f0.f0)) ∧ w'.cell? ⟨(ad163.add ((x5_1).toNat * 14)).block, (ad163.add ((x5_1).toNat * 14)).off + 1, none⟩ = some (.int .i64 ((rd_T35 l1 x5_1).f0.f1)) ∧ w'.cell? ⟨(ad163.add ((x5_1).toNat * 14)).block, (ad163.add ((x5_1).toNat * 14)).off + 2, none⟩ = some (.slice A163_2 ((rd_T35 l1 x5_1).f0.f2).length c163_2) ∧ w'.cell? ⟨(ad163.add ((x5_1).toNat * 14)).block, (ad163.add ((x5_1).toNat * 14)).off + 3, none⟩ = some (.string ((rd_T35 l1 x5_1).f0.f3)) ∧ w'.cell? ⟨(ad163.add ((x5_1).toNat * 14)).block, (ad163.add ((x5_1).toNat * 14)).off + 4, none⟩ = some (.int .i64 ((rd_T35 l1 x5_1).f0.f4)) ∧ w'.cell? ⟨(ad163.add ((x5_1).toNat * 14)).block, (ad163.add ((x5_1).toNat * 14)).off + 5, none⟩ = some (.int .i64 ((rd_T35 l1 x5_1).f0.f5)) ∧ w'.cell? ⟨(ad163.add ((x5_1).toNat * 14)).block, (ad163.add ((x5_1).toNat * 14)).off + 6, none⟩ = some (.string ((rd_T35 l1 x5_1).f1.f0)) ∧ w'.cell? ⟨(ad163.add ((x5_1).toNat * 14)).block, (ad163.add ((x5_1).toNat * 14)).off + 7, none⟩ = some (.int .i64 ((rd_T35 l1 x5_1).f1.f1)) ∧ w'.cell? ⟨(ad163.add ((x5_1).toNat * 14)).block, (ad163.add ((x5_1).toNat * 14)).off + 8, none⟩ = some (.int .i64 ((rd_T35 l1 x5_1).f1.f2)) ∧ w'.cell? ⟨(ad163.add ((x5_1).toNat * 14)).block, (ad163.add ((x5_1).toNat * 14)).off + 9, none⟩ = some (.slice A163_9 ((rd_T35 l1 x5_1).f1.f3).length c163_9) ∧ w'.cell? ⟨(ad163.add ((x5_1).toNat * 14)).block, (ad163.add ((x5_1).toNat * 14)).off + 10, none⟩ = some (.int .i64 ((rd_T35 l1 x5_1).f1.f4)) ∧ w'.cell? ⟨(ad163.add ((x5_1).toNat * 14)).block, (ad163.add ((x5_1).toNat * 14)).off + 11, none⟩ = some (.int .i64 ((rd_T35 l1 x5_1).f2)) ∧ w'.cell? ⟨(ad163.add ((x5_1).toNat * 14)).block, (ad163.add ((x5_1).toNat * 14)).off + 12, none⟩ = some (.int .i64 ((rd_T35 l1 x5_1).f3)) ∧ w'.cell? ⟨(ad163.add ((x5_1).toNat * 14)).block, (ad163.add ((x5_1).toNat * 14)).off + 13, none⟩ = some (.bool ((rd_T35 l1 x5_1).f4))) (ds := []) #[false, false, false, false, false, false, false, false, false, false] (by kernel_rfl) rfl rfl ⟨((HB.out.cell (World.block_lt_of_cell? w _ hw162_0)).trans hw162_0), ((HB.out.cell (World.block_lt_of_cell? w _ hw162_1)).trans hw162_1), ((HB.out.cell (World.block_lt_of_cell? w _ hw162_2)).trans hw162_2), ((HB.out.cell (World.block_lt_of_cell? w _ hw162_3)).trans hw162_3), ((HB.out.cell (World.block_lt_of_cell? w _ hw162_4)).trans hw162_4), ((HB.out.cell (World.block_lt_of_cell? w _ hw162_5)).trans hw162_5), ((HB.out.cell (World.block_lt_of_cell? w _ hw162_6)).trans hw162_6), ((HB.out.cell (World.block_lt_of_cell? w _ hw162_7)).trans hw162_7), ((HB.out.cell (World.block_lt_of_cell? w _ hw162_8)).trans hw162_8), ((HB.out.cell (World.block_lt_of_cell? w _ hw162_9)).trans hw162_9), ((HB.out.cell (World.block_lt_of_cell? w _ hw162_10)).trans hw162_10), ((HB.out.cell (World.block_lt_of_cell? w _ hw162_11)).trans hw162_11), ((HB.out.cell (World.block_lt_of_cell? w _ hw162_12)).trans hw162_12), ((HB.out.cell (World.block_lt_of_cell? w _ hw162_13)).trans hw162_13), ((HB.out.cell (World.block_lt_of_cell? w _ hw163_0)).trans hw163_0), ((HB.out.cell (World.block_lt_of_cell? w _ hw163_1)).trans hw163_1), ((HB.out.cell (World.block_lt_of_cell? w _ hw163_2)).trans hw163_2), ((HB.out.cell (World.block_lt_of_cell? w _ hw163_3)).trans hw163_3), ((HB.out.cell (World.block_lt_of_cell? w _ hw163_4)).trans hw163_4), ((HB.out.cell (World.block_lt_of_cell? w _ hw163_5)).trans hw163_5), ((HB.out.cell (World.block_lt_of_cell? w _ hw163_6)).trans hw163_6), ((HB.out.cell (World.block_lt_of_cell? w _ hw163_7)).trans hw163_7), ((HB.out.cell (World.block_lt_of_cell? w _ hw163_8)).trans hw163_8), ((HB.out.cell (World.block_lt_of_cell? w _ hw163_9)).trans hw163_9), ((HB.out.cell (World.block_lt_of_cell? w _ hw163_10)).trans hw163_10), ((HB.out.cell (World.block_lt_of_cell? w _ hw163_11)).trans hw163_11), ((HB.out.cell (World.block_lt_of_cell? w _ hw163_12)).trans hw163_12), ((HB.out.cell (World.block_lt_of_cell? w _ hw163_13)).trans hw163_13)⟩ (fun hHeld => ?_); refine with_tabW larderlaw16_sameOps.tab6 larderlaw16_sameOps.bits6 (fun HT_ HW_ => ?_)
                generalize wr.drew = w9 at HB HR162_2 HR162_9 HR163_2 HR163_9 hx162_0 hx162_1 hx162_10 hx162_11 hx162_12 hx162_13 hx162_2 hx162_3 hx162_4 hx162_5 hx162_6 hx162_7 hx162_8 hx162_9 hx163_0 hx163_1 hx163_10 hx163_11 hx163_12 hx163_13 hx163_2 hx163_3 hx163_4 hx163_5 hx163_6 hx163_7 hx163_8 hx163_9 hHeld ⊢
                refine pure_ (i := 0) (N := some 17) (v := ?_) (a' := ?_) #[true, false, false, false, false, false, false, false, false, false] rfl rfl (any_of HT_.out (by kernel_rfl)) (fun _ _ _ h => h) (Or.inl ⟨by rfl, ?_⟩) ?_ ?_
                rotate_left
                · intro w'
                  go_simp
                  with_reducible rfl
                rotate_left
                · simp only [Act.put, List.setIfInBounds_toArray, List.set_cons_zero, List.set_cons_succ, i64_w, i32_w]
                  rfl
                refine pure_ (i := 1) (N := some 18) (v := ?_) (a' := ?_) #[true, true, false, false, false, false, false, false, false, false] rfl rfl (any_of HT_.out (by kernel_rfl)) (fun _ _ _ h => h) (Or.inl ⟨by rfl, ?_⟩) ?_ ?_
                rotate_left
                · intro w'
                  go_simp
                  with_reducible rfl
                rotate_left
                · simp only [Act.put, List.setIfInBounds_toArray, List.set_cons_zero, List.set_cons_succ, i64_w, i32_w]
                  rfl
                refine pure_ (i := 2) (N := some 19) (v := ?_) (a' := ?_) #[true, true, true, false, false, false, false, false, false, false] rfl rfl (any_of HT_.out (by kernel_rfl)) (fun _ _ _ h => h) (Or.inl ⟨by rfl, ?_⟩) ?_ ?_
                rotate_left
                · intro w'
                  go_simp
                  with_reducible rfl
                rotate_left
                · simp only [Act.put, List.setIfInBounds_toArray, List.set_cons_zero, List.set_cons_succ, i64_w, i32_w]
                  rfl
                refine pure_ (i := 4) (N := some 21) (v := ?_) (a' := ?_) #[true, true, true, false, true, false, false, false, false, false] rfl rfl (any_of HT_.out (by kernel_rfl)) (fun _ _ _ h => h) (Or.inl ⟨by rfl, ?_⟩) ?_ ?_
                rotate_left
                · intro w'
                  go_simp
                  with_reducible rfl
                rotate_left
                · simp only [Act.put, List.setIfInBounds_toArray, List.set_cons_zero, List.set_cons_succ, i64_w, i32_w]
                  rfl
                refine pure_ (i := 5) (N := some 22) (v := ?_) (a' := ?_) #[true, true, true, false, true, true, false, false, false, false] rfl rfl (any_of HT_.out (by kernel_rfl)) (fun _ _ _ h => h) (Or.inl ⟨by rfl, ?_⟩) ?_ ?_
                rotate_left
                · intro w'
                  go_simp
                  with_reducible rfl
                rotate_left
                · simp only [Act.put, List.setIfInBounds_toArray, List.set_cons_zero, List.set_cons_succ, i64_w, i32_w]
                  rfl
                refine pure_ (i := 6) (N := some 23) (v := ?_) (a' := ?_) #[true, true, true, false, true, true, true, false, false, false] rfl rfl (any_of HT_.out (by kernel_rfl)) (fun _ _ _ h => h) (Or.inl ⟨by rfl, ?_⟩) ?_ ?_
                rotate_left
                · intro w'
                  go_simp
                  with_reducible rfl
                rotate_left
                · simp only [Act.put, List.setIfInBounds_toArray, List.set_cons_zero, List.set_cons_succ, i64_w, i32_w]
                  rfl
                refine take_ (i := 3) (N := some 20) (v := ?_) (a' := ?_) #[true, true, true, true, true, true, true, false, false, false] rfl rfl (take_ofW HT_.out HW_.out (by kernel_rfl)) (fun _ _ _ h => h) (Or.inl ⟨by rfl, ?_⟩) hHeld ?_ ?_
                rotate_left
                · rintro w' ⟨s0, s1, s2, s3, s4, s5, s6, s7, s8, s9, s10, s11, s12, s13, s14, s15, s16, s17, s18, s19, s20, s21, s22, s23, s24, s25, s26, s27⟩
                  go_simp
                  with_reducible rfl
                rotate_left
                · simp only [Act.put, List.setIfInBounds_toArray, List.set_cons_zero, List.set_cons_succ, i64_w, i32_w]
                  rfl
                refine take_ (i := 7) (N := some 24) (v := ?_) (a' := ?_) #[true, true, true, true, true, true, true, true, false, false] rfl rfl (take_ofW HT_.out HW_.out (by kernel_rfl)) (fun _ _ _ h => h) (Or.inl ⟨by rfl, ?_⟩) hHeld ?_ ?_
                rotate_left
                · rintro w' ⟨s0, s1, s2, s3, s4, s5, s6, s7, s8, s9, s10, s11, s12, s13, s14, s15, s16, s17, s18, s19, s20, s21, s22, s23, s24, s25, s26, s27⟩
                  go_simp
                  with_reducible rfl
                rotate_left
                · simp only [Act.put, List.setIfInBounds_toArray, List.set_cons_zero, List.set_cons_succ, i64_w, i32_w]
                  rfl
                refine one_ (i := 8) (N := some 25) #[true, true, true, true, true, true, true, true, true, false] rfl rfl (one_of HT_.out (by kernel_rfl)) (by decide) (fun K hK => ?_)
                refine goes_ Try.func23 (by kernel_rfl) rfl #[.agg #[.string ((rd_T35 l0 x5_1).f0.f0), .int .i64 ((rd_T35 l0 x5_1).f0.f1), .slice A162_2 ((rd_T35 l0 x5_1).f0.f2).length c162_2, .string ((rd_T35 l0 x5_1).f0.f3), .int .i64 ((rd_T35 l0 x5_1).f0.f4), .int .i64 ((rd_T35 l0 x5_1).f0.f5), .string ((rd_T35 l0 x5_1).f1.f0), .int .i64 ((rd_T35 l0 x5_1).f1.f1), .int .i64 ((rd_T35 l0 x5_1).f1.f2), .slice A162_9 ((rd_T35 l0 x5_1).f1.f3).length c162_9, .int .i64 ((rd_T35 l0 x5_1).f1.f4), .int .i64 ((rd_T35 l0 x5_1).f2), .int .i64 ((rd_T35 l0 x5_1).f3), .bool ((rd_T35 l0 x5_1).f4)], .agg #[.string ((rd_T35 l1 x5_1).f0.f0), .int .i64 ((rd_T35 l1 x5_1).f0.f1), .slice A163_2 ((rd_T35 l1 x5_1).f0.f2).length c163_2, .string ((rd_T35 l1 x5_1).f0.f3), .int .i64 ((rd_T35 l1 x5_1).f0.f4), .int .i64 ((rd_T35 l1 x5_1).f0.f5), .string ((rd_T35 l1 x5_1).f1.f0), .int .i64 ((rd_T35 l1 x5_1).f1.f1), .int .i64 ((rd_T35 l1 x5_1).f1.f2), .slice A163_9 ((rd_T35 l1 x5_1).f1.f3).length c163_9, .int .i64 ((rd_T35 l1 x5_1).f1.f4), .int .i64 ((rd_T35 l1 x5_1).f2), .int .i64 ((rd_T35 l1 x5_1).f3), .bool ((rd_T35 l1 x5_1).f4)]] (by rfl) rfl rfl (by (try simp only [List.map_toArray, List.map_cons, List.map_nil]); first | done | rfl | (simp only [List.length_drop, List.length_take]; rfl)) ?_
                with_reducible refine (larderlaw16_sameOp.calls k1 ((rd_T35 l0 x5_1).f0.f0) ((rd_T35 l0 x5_1).f0.f1) _ _ ((rd_T35 l0 x5_1).f0.f2) ((rd_T35 l0 x5_1).f0.f3) ((rd_T35 l0 x5_1).f0.f4) ((rd_T35 l0 x5_1).f0.f5) ((rd_T35 l0 x5_1).f1.f0) ((rd_T35 l0 x5_1).f1.f1) ((rd_T35 l0 x5_1).f1.f2) _ _ ((rd_T35 l0 x5_1).f1.f3) ((rd_T35 l0 x5_1).f1.f4) ((rd_T35 l0 x5_1).f2) ((rd_T35 l0 x5_1).f3) ((rd_T35 l0 x5_1).f4) ((rd_T35 l1 x5_1).f0.f0) ((rd_T35 l1 x5_1).f0.f1) _ _ ((rd_T35 l1 x5_1).f0.f2) ((rd_T35 l1 x5_1).f0.f3) ((rd_T35 l1 x5_1).f0.f4) ((rd_T35 l1 x5_1).f0.f5) ((rd_T35 l1 x5_1).f1.f0) ((rd_T35 l1 x5_1).f1.f1) ((rd_T35 l1 x5_1).f1.f2) _ _ ((rd_T35 l1 x5_1).f1.f3) ((rd_T35 l1 x5_1).f1.f4) ((rd_T35 l1 x5_1).f2) ((rd_T35 l1 x5_1).f3) ((rd_T35 l1 x5_1).f4) true _ ?side1 ?side2 ?side3 ?side4 ?side5 ?side6 ?side7 ?side8 A7.out).mono ?_
                (case side1 => repeat (first | exact (Kd.C_below HR162_2.out HB.out) | (with_reducible refine Kd.C_alloc ?_ _) | (with_reducible refine Kd.C_drewN ?_ _) | (with_reducible refine Kd.C_drew ?_)))
                (case side2 => exact HC162_2.out)
                (case side3 => repeat (first | exact (Kd.C_below HR162_9.out HB.out) | (with_reducible refine Kd.C_alloc ?_ _) | (with_reducible refine Kd.C_drewN ?_ _) | (with_reducible refine Kd.C_drew ?_)))
                (case side4 => exact HC162_9.out)
                (case side5 => repeat (first | exact (Kd.C_below HR163_2.out HB.out) | (with_reducible refine Kd.C_alloc ?_ _) | (with_reducible refine Kd.C_drewN ?_ _) | (with_reducible refine Kd.C_drew ?_)))
                (case side6 => exact HC163_2.out)
                (case side7 => repeat (first | exact (Kd.C_below HR163_9.out HB.out) | (with_reducible refine Kd.C_alloc ?_ _) | (with_reducible refine Kd.C_drewN ?_ _) | (with_reducible refine Kd.C_drew ?_)))
                (case side8 => exact HC163_9.out)
                rintro e w10 ⟨rfl, hb⟩
                refine ⟨_, rfl, ?_⟩
                have n0_ := Aside0.mk (below_step (by repeat (first | (with_reducible first | exact HB.out | apply below_alloc | apply pw_below_drewN | apply below_drew1) | exact HB.out)) hb)
                clear HB
                have HB := n0_
                clear n0_
                (try clear hb)
                (try clear hb2)
                (try clear hk)
                (try clear hi)
                refine hK.out _ _ ⟨((HB.out.cell (World.block_lt_of_cell? w _ hw162_0)).trans hw162_0), ((HB.out.cell (World.block_lt_of_cell? w _ hw162_1)).trans hw162_1), ((HB.out.cell (World.block_lt_of_cell? w _ hw162_2)).trans hw162_2), ((HB.out.cell (World.block_lt_of_cell? w _ hw162_3)).trans hw162_3), ((HB.out.cell (World.block_lt_of_cell? w _ hw162_4)).trans hw162_4), ((HB.out.cell (World.block_lt_of_cell? w _ hw162_5)).trans hw162_5), ((HB.out.cell (World.block_lt_of_cell? w _ hw162_6)).trans hw162_6), ((HB.out.cell (World.block_lt_of_cell? w _ hw162_7)).trans hw162_7), ((HB.out.cell (World.block_lt_of_cell? w _ hw162_8)).trans hw162_8), ((HB.out.cell (World.block_lt_of_cell? w _ hw162_9)).trans hw162_9), ((HB.out.cell (World.block_lt_of_cell? w _ hw162_10)).trans hw162_10), ((HB.out.cell (World.block_lt_of_cell? w _ hw162_11)).trans hw162_11), ((HB.out.cell (World.block_lt_of_cell? w _ hw162_12)).trans hw162_12), ((HB.out.cell (World.block_lt_of_cell? w _ hw162_13)).trans hw162_13), ((HB.out.cell (World.block_lt_of_cell? w _ hw163_0)).trans hw163_0), ((HB.out.cell (World.block_lt_of_cell? w _ hw163_1)).trans hw163_1), ((HB.out.cell (World.block_lt_of_cell? w _ hw163_2)).trans hw163_2), ((HB.out.cell (World.block_lt_of_cell? w _ hw163_3)).trans hw163_3), ((HB.out.cell (World.block_lt_of_cell? w _ hw163_4)).trans hw163_4), ((HB.out.cell (World.block_lt_of_cell? w _ hw163_5)).trans hw163_5), ((HB.out.cell (World.block_lt_of_cell? w _ hw163_6)).trans hw163_6), ((HB.out.cell (World.block_lt_of_cell? w _ hw163_7)).trans hw163_7), ((HB.out.cell (World.block_lt_of_cell? w _ hw163_8)).trans hw163_8), ((HB.out.cell (World.block_lt_of_cell? w _ hw163_9)).trans hw163_9), ((HB.out.cell (World.block_lt_of_cell? w _ hw163_10)).trans hw163_10), ((HB.out.cell (World.block_lt_of_cell? w _ hw163_11)).trans hw163_11), ((HB.out.cell (World.block_lt_of_cell? w _ hw163_12)).trans hw163_12), ((HB.out.cell (World.block_lt_of_cell? w _ hw163_13)).trans hw163_13)⟩ (fun hHeld => ?_)
                clear hK K
                refine norm_ (a' := ?_) ?_ ?_
                rotate_left
                · show Act.put _ (some 25) _ = _
                  simp only [Act.put, List.setIfInBounds_toArray, List.set_cons_zero, List.set_cons_succ, i64_w, i32_w]
                  rfl
                refine pure_ (i := 9) (N := some 26) (v := ?_) (a' := ?_) #[true, true, true, true, true, true, true, true, true, true] rfl rfl (any_of HT_.out (by kernel_rfl)) (fun _ _ _ h => h) (Or.inl ⟨by rfl, ?_⟩) ?_ ?_
                rotate_left
                · intro w'
                  go_simp
                  with_reducible rfl
                rotate_left
                · simp only [Act.put, List.setIfInBounds_toArray, List.set_cons_zero, List.set_cons_succ, i64_w, i32_w]
                  rfl
                refine done_ (done_of HT_.out (by kernel_rfl)) ?_
                try go_wp2
                go_roundg k1
                case measure => have := HK1.out; omega
                case rel => exact ⟨(wrap64 (x5_1 + 1)), (by first | rfl | (simp; done) | (simp [*]; done)), H', ⟨by have := HK1.out; omega⟩, ⟨by repeat (first | (with_reducible first | exact HB.out | apply below_alloc | apply pw_below_drewN | apply below_drew1) | exact HB.out)⟩⟩
              · replace c8 := Bool.eq_false_iff.mpr c8
                subst c8
                have H1 : (some false) = some r := by rw [if_neg (show ¬ (false = true) by decide)] at H; exact H
                clear H
                have H := H1
                clear H1
                obtain rfl := Option.some.inj H
                try go_wp2
                have n0_ := Aside0.mk (below_drew1 HB.out)
                clear HB
                have HB := n0_
                clear n0_
                have p162 : 0 ≤ (x5_1 : Int) := of_decide_eq_true (by first | (with_reducible assumption) | assumption)
                have q162 : x5_1 < (l0.length : Int) := of_decide_eq_true (by first | (with_reducible assumption) | assumption)
                obtain ⟨ad162, A162_2, c162_2, A162_9, c162_9, e162, hx162_0, hx162_1, hx162_2, hx162_3, hx162_4, hx162_5, hx162_6, hx162_7, hx162_8, hx162_9, hx162_10, hx162_11, hx162_12, hx162_13, hl162_2, hi162_2, hl162_9, hi162_9⟩ := at_T35 HR0.out x5_1 p162 q162
                have hw162_13 := hx162_13
                have hw162_12 := hx162_12
                have hw162_11 := hx162_11
                have hw162_10 := hx162_10
                have hw162_9 := hx162_9
                have hw162_8 := hx162_8
                have hw162_7 := hx162_7
                have hw162_6 := hx162_6
                have hw162_5 := hx162_5
                have hw162_4 := hx162_4
                have hw162_3 := hx162_3
                have hw162_2 := hx162_2
                have hw162_1 := hx162_1
                have hw162_0 := hx162_0
                cases e162
                replace hx162_0 := (HB.out.cell (World.block_lt_of_cell? w _ hx162_0)).trans hx162_0
                replace hx162_1 := (HB.out.cell (World.block_lt_of_cell? w _ hx162_1)).trans hx162_1
                replace hx162_2 := (HB.out.cell (World.block_lt_of_cell? w _ hx162_2)).trans hx162_2
                replace hx162_3 := (HB.out.cell (World.block_lt_of_cell? w _ hx162_3)).trans hx162_3
                replace hx162_4 := (HB.out.cell (World.block_lt_of_cell? w _ hx162_4)).trans hx162_4
                replace hx162_5 := (HB.out.cell (World.block_lt_of_cell? w _ hx162_5)).trans hx162_5
                replace hx162_6 := (HB.out.cell (World.block_lt_of_cell? w _ hx162_6)).trans hx162_6
                replace hx162_7 := (HB.out.cell (World.block_lt_of_cell? w _ hx162_7)).trans hx162_7
                replace hx162_8 := (HB.out.cell (World.block_lt_of_cell? w _ hx162_8)).trans hx162_8
                replace hx162_9 := (HB.out.cell (World.block_lt_of_cell? w _ hx162_9)).trans hx162_9
                replace hx162_10 := (HB.out.cell (World.block_lt_of_cell? w _ hx162_10)).trans hx162_10
                replace hx162_11 := (HB.out.cell (World.block_lt_of_cell? w _ hx162_11)).trans hx162_11
                replace hx162_12 := (HB.out.cell (World.block_lt_of_cell? w _ hx162_12)).trans hx162_12
                replace hx162_13 := (HB.out.cell (World.block_lt_of_cell? w _ hx162_13)).trans hx162_13
                have HR162_2 := Aside0.mk hi162_2
                have HC162_2 := Aside0.mk hl162_2
                clear hi162_2 hl162_2
                have HR162_9 := Aside0.mk hi162_9
                have HC162_9 := Aside0.mk hl162_9
                clear hi162_9 hl162_9
                replace p162 := eq_true p162
                replace q162 := eq_true q162
                have p163 : 0 ≤ (x5_1 : Int) := of_decide_eq_true (by first | (with_reducible assumption) | assumption)
                have q163 : x5_1 < (l1.length : Int) := of_decide_eq_true (by first | (with_reducible assumption) | assumption)
                obtain ⟨ad163, A163_2, c163_2, A163_9, c163_9, e163, hx163_0, hx163_1, hx163_2, hx163_3, hx163_4, hx163_5, hx163_6, hx163_7, hx163_8, hx163_9, hx163_10, hx163_11, hx163_12, hx163_13, hl163_2, hi163_2, hl163_9, hi163_9⟩ := at_T35 HR1.out x5_1 p163 q163
                have hw163_13 := hx163_13
                have hw163_12 := hx163_12
                have hw163_11 := hx163_11
                have hw163_10 := hx163_10
                have hw163_9 := hx163_9
                have hw163_8 := hx163_8
                have hw163_7 := hx163_7
                have hw163_6 := hx163_6
                have hw163_5 := hx163_5
                have hw163_4 := hx163_4
                have hw163_3 := hx163_3
                have hw163_2 := hx163_2
                have hw163_1 := hx163_1
                have hw163_0 := hx163_0
                cases e163
                replace hx163_0 := (HB.out.cell (World.block_lt_of_cell? w _ hx163_0)).trans hx163_0
                replace hx163_1 := (HB.out.cell (World.block_lt_of_cell? w _ hx163_1)).trans hx163_1
                replace hx163_2 := (HB.out.cell (World.block_lt_of_cell? w _ hx163_2)).trans hx163_2
                replace hx163_3 := (HB.out.cell (World.block_lt_of_cell? w _ hx163_3)).trans hx163_3
                replace hx163_4 := (HB.out.cell (World.block_lt_of_cell? w _ hx163_4)).trans hx163_4
                replace hx163_5 := (HB.out.cell (World.block_lt_of_cell? w _ hx163_5)).trans hx163_5
                replace hx163_6 := (HB.out.cell (World.block_lt_of_cell? w _ hx163_6)).trans hx163_6
                replace hx163_7 := (HB.out.cell (World.block_lt_of_cell? w _ hx163_7)).trans hx163_7
                replace hx163_8 := (HB.out.cell (World.block_lt_of_cell? w _ hx163_8)).trans hx163_8
                replace hx163_9 := (HB.out.cell (World.block_lt_of_cell? w _ hx163_9)).trans hx163_9
                replace hx163_10 := (HB.out.cell (World.block_lt_of_cell? w _ hx163_10)).trans hx163_10
                replace hx163_11 := (HB.out.cell (World.block_lt_of_cell? w _ hx163_11)).trans hx163_11
                replace hx163_12 := (HB.out.cell (World.block_lt_of_cell? w _ hx163_12)).trans hx163_12
                replace hx163_13 := (HB.out.cell (World.block_lt_of_cell? w _ hx163_13)).trans hx163_13
                have HR163_2 := Aside0.mk hi163_2
                have HC163_2 := Aside0.mk hl163_2
                clear hi163_2 hl163_2
                have HR163_9 := Aside0.mk hi163_9
                have HC163_9 := Aside0.mk hl163_9
                clear hi163_9 hl163_9
                replace p163 := eq_true p163
                replace q163 := eq_true q163
                refine start_ (n := 10) (S := fun w' => w'.cell? (ad162.add ((x5_1).toNat * 14)) = some (.string ((rd_T35 l0 x5_1).f0.f0)) ∧ w'.cell? ⟨(ad162.add ((x5_1).toNat * 14)).block, (ad162.add ((x5_1).toNat * 14)).off + 1, none⟩ = some (.int .i64 ((rd_T35 l0 x5_1).f0.f1)) ∧ w'.cell? ⟨(ad162.add ((x5_1).toNat * 14)).block, (ad162.add ((x5_1).toNat * 14)).off + 2, none⟩ = some (.slice A162_2 ((rd_T35 l0 x5_1).f0.f2).length c162_2) ∧ w'.cell? ⟨(ad162.add ((x5_1).toNat * 14)).block, (ad162.add ((x5_1).toNat * 14)).off + 3, none⟩ = some (.string ((rd_T35 l0 x5_1).f0.f3)) ∧ w'.cell? ⟨(ad162.add ((x5_1).toNat * 14)).block, (ad162.add ((x5_1).toNat * 14)).off + 4, none⟩ = some (.int .i64 ((rd_T35 l0 x5_1).f0.f4)) ∧ w'.cell? ⟨(ad162.add ((x5_1).toNat * 14)).block, (ad162.add ((x5_1).toNat * 14)).off + 5, none⟩ = some (.int .i64 ((rd_T35 l0 x5_1).f0.f5)) ∧ w'.cell? ⟨(ad162.add ((x5_1).toNat * 14)).block, (ad162.add ((x5_1).toNat * 14)).off + 6, none⟩ = some (.string ((rd_T35 l0 x5_1).f1.f0)) ∧ w'.cell? ⟨(ad162.add ((x5_1).toNat * 14)).block, (ad162.add ((x5_1).toNat * 14)).off + 7, none⟩ = some (.int .i64 ((rd_T35 l0 x5_1).f1.f1)) ∧ w'.cell? ⟨(ad162.add ((x5_1).toNat * 14)).block, (ad162.add ((x5_1).toNat * 14)).off + 8, none⟩ = some (.int .i64 ((rd_T35 l0 x5_1).f1.f2)) ∧ w'.cell? ⟨(ad162.add ((x5_1).toNat * 14)).block, (ad162.add ((x5_1).toNat * 14)).off + 9, none⟩ = some (.slice A162_9 ((rd_T35 l0 x5_1).f1.f3).length c162_9) ∧ w'.cell? ⟨(ad162.add ((x5_1).toNat * 14)).block, (ad162.add ((x5_1).toNat * 14)).off + 10, none⟩ = some (.int .i64 ((rd_T35 l0 x5_1).f1.f4)) ∧ w'.cell? ⟨(ad162.add ((x5_1).toNat * 14)).block, (ad162.add ((x5_1).toNat * 14)).off + 11, none⟩ = some (.int .i64 ((rd_T35 l0 x5_1).f2)) ∧ w'.cell? ⟨(ad162.add ((x5_1).toNat * 14)).block, (ad162.add ((x5_1).toNat * 14)).off + 12, none⟩ = some (.int .i64 ((rd_T35 l0 x5_1).f3)) ∧ w'.cell? ⟨(ad162.add ((x5_1).toNat * 14)).block, (ad162.add ((x5_1).toNat * 14)).off + 13, none⟩ = some (.bool ((rd_T35 l0 x5_1).f4)) ∧ w'.cell? (ad163.add ((x5_1).toNat * 14)) = some (.string ((rd_T35 l1 x5_1).f0.f0)) ∧ w'.cell? ⟨(ad163.add ((x5_1).toNat * 14)).block, (ad163.add ((x5_1).toNat * 14)).off + 1, none⟩ = some (.int .i64 ((rd_T35 l1 x5_1).f0.f1)) ∧ w'.cell? ⟨(ad163.add ((x5_1).toNat * 14)).block, (ad163.add ((x5_1).toNat * 14)).off + 2, none⟩ = some (.slice A163_2 ((rd_T35 l1 x5_1).f0.f2).length c163_2) ∧ w'.cell? ⟨(ad163.add ((x5_1).toNat * 14)).block, (ad163.add ((x5_1).toNat * 14)).off + 3, none⟩ = some (.string ((rd_T35 l1 x5_1).f0.f3)) ∧ w'.cell? ⟨(ad163.add ((x5_1).toNat * 14)).block, (ad163.add ((x5_1).toNat * 14)).off + 4, none⟩ = some (.int .i64 ((rd_T35 l1 x5_1).f0.f4)) ∧ w'.cell? ⟨(ad163.add ((x5_1).toNat * 14)).block, (ad163.add ((x5_1).toNat * 14)).off + 5, none⟩ = some (.int .i64 ((rd_T35 l1 x5_1).f0.f5)) ∧ w'.cell? ⟨(ad163.add ((x5_1).toNat * 14)).block, (ad163.add ((x5_1).toNat * 14)).off + 6, none⟩ = some (.string ((rd_T35 l1 x5_1).f1.f0)) ∧ w'.cell? ⟨(ad163.add ((x5_1).toNat * 14)).block, (ad163.add ((x5_1).toNat * 14)).off + 7, none⟩ = some (.int .i64 ((rd_T35 l1 x5_1).f1.f1)) ∧ w'.cell? ⟨(ad163.add ((x5_1).toNat * 14)).block, (ad163.add ((x5_1).toNat * 14)).off + 8, none⟩ = some (.int .i64 ((rd_T35 l1 x5_1).f1.f2)) ∧ w'.cell? ⟨(ad163.add ((x5_1).toNat * 14)).block, (ad163.add ((x5_1).toNat * 14)).off + 9, none⟩ = some (.slice A163_9 ((rd_T35 l1 x5_1).f1.f3).length c163_9) ∧ w'.cell? ⟨(ad163.add ((x5_1).toNat * 14)).block, (ad163.add ((x5_1).toNat * 14)).off + 10, none⟩ = some (.int .i64 ((rd_T35 l1 x5_1).f1.f4)) ∧ w'.cell? ⟨(ad163.add ((x5_1).toNat * 14)).block, (ad163.add ((x5_1).toNat * 14)).off + 11, none⟩ = some (.int .i64 ((rd_T35 l1 x5_1).f2)) ∧ w'.cell? ⟨(ad163.add ((x5_1).toNat * 14)).block, (ad163.add ((x5_1).toNat * 14)).off + 12, none⟩ = some (.int .i64 ((rd_T35 l1 x5_1).f3)) ∧ w'.cell? ⟨(ad163.add ((x5_1).toNat * 14)).block, (ad163.add ((x5_1).toNat * 14)).off + 13, none⟩ = some (.bool ((rd_T35 l1 x5_1).f4))) (ds := []) #[false, false, false, false, false, false, false, false, false, false] (by kernel_rfl) rfl rfl ⟨((HB.out.cell (World.block_lt_of_cell? w _ hw162_0)).trans hw162_0), ((HB.out.cell (World.block_lt_of_cell? w _ hw162_1)).trans hw162_1), ((HB.out.cell (World.block_lt_of_cell? w _ hw162_2)).trans hw162_2), ((HB.out.cell (World.block_lt_of_cell? w _ hw162_3)).trans hw162_3), ((HB.out.cell (World.block_lt_of_cell? w _ hw162_4)).trans hw162_4), ((HB.out.cell (World.block_lt_of_cell? w _ hw162_5)).trans hw162_5), ((HB.out.cell (World.block_lt_of_cell? w _ hw162_6)).trans hw162_6), ((HB.out.cell (World.block_lt_of_cell? w _ hw162_7)).trans hw162_7), ((HB.out.cell (World.block_lt_of_cell? w _ hw162_8)).trans hw162_8), ((HB.out.cell (World.block_lt_of_cell? w _ hw162_9)).trans hw162_9), ((HB.out.cell (World.block_lt_of_cell? w _ hw162_10)).trans hw162_10), ((HB.out.cell (World.block_lt_of_cell? w _ hw162_11)).trans hw162_11), ((HB.out.cell (World.block_lt_of_cell? w _ hw162_12)).trans hw162_12), ((HB.out.cell (World.block_lt_of_cell? w _ hw162_13)).trans hw162_13), ((HB.out.cell (World.block_lt_of_cell? w _ hw163_0)).trans hw163_0), ((HB.out.cell (World.block_lt_of_cell? w _ hw163_1)).trans hw163_1), ((HB.out.cell (World.block_lt_of_cell? w _ hw163_2)).trans hw163_2), ((HB.out.cell (World.block_lt_of_cell? w _ hw163_3)).trans hw163_3), ((HB.out.cell (World.block_lt_of_cell? w _ hw163_4)).trans hw163_4), ((HB.out.cell (World.block_lt_of_cell? w _ hw163_5)).trans hw163_5), ((HB.out.cell (World.block_lt_of_cell? w _ hw163_6)).trans hw163_6), ((HB.out.cell (World.block_lt_of_cell? w _ hw163_7)).trans hw163_7), ((HB.out.cell (World.block_lt_of_cell? w _ hw163_8)).trans hw163_8), ((HB.out.cell (World.block_lt_of_cell? w _ hw163_9)).trans hw163_9), ((HB.out.cell (World.block_lt_of_cell? w _ hw163_10)).trans hw163_10), ((HB.out.cell (World.block_lt_of_cell? w _ hw163_11)).trans hw163_11), ((HB.out.cell (World.block_lt_of_cell? w _ hw163_12)).trans hw163_12), ((HB.out.cell (World.block_lt_of_cell? w _ hw163_13)).trans hw163_13)⟩ (fun hHeld => ?_); refine with_tabW larderlaw16_sameOps.tab6 larderlaw16_sameOps.bits6 (fun HT_ HW_ => ?_)
                generalize wr.drew = w11 at HB HR162_2 HR162_9 HR163_2 HR163_9 hx162_0 hx162_1 hx162_10 hx162_11 hx162_12 hx162_13 hx162_2 hx162_3 hx162_4 hx162_5 hx162_6 hx162_7 hx162_8 hx162_9 hx163_0 hx163_1 hx163_10 hx163_11 hx163_12 hx163_13 hx163_2 hx163_3 hx163_4 hx163_5 hx163_6 hx163_7 hx163_8 hx163_9 hHeld ⊢
                refine pure_ (i := 0) (N := some 17) (v := ?_) (a' := ?_) #[true, false, false, false, false, false, false, false, false, false] rfl rfl (any_of HT_.out (by kernel_rfl)) (fun _ _ _ h => h) (Or.inl ⟨by rfl, ?_⟩) ?_ ?_
                rotate_left
                · intro w'
                  go_simp
                  with_reducible rfl
                rotate_left
                · simp only [Act.put, List.setIfInBounds_toArray, List.set_cons_zero, List.set_cons_succ, i64_w, i32_w]
                  rfl
                refine pure_ (i := 1) (N := some 18) (v := ?_) (a' := ?_) #[true, true, false, false, false, false, false, false, false, false] rfl rfl (any_of HT_.out (by kernel_rfl)) (fun _ _ _ h => h) (Or.inl ⟨by rfl, ?_⟩) ?_ ?_
                rotate_left
                · intro w'
                  go_simp
                  with_reducible rfl
                rotate_left
                · simp only [Act.put, List.setIfInBounds_toArray, List.set_cons_zero, List.set_cons_succ, i64_w, i32_w]
                  rfl
                refine pure_ (i := 2) (N := some 19) (v := ?_) (a' := ?_) #[true, true, true, false, false, false, false, false, false, false] rfl rfl (any_of HT_.out (by kernel_rfl)) (fun _ _ _ h => h) (Or.inl ⟨by rfl, ?_⟩) ?_ ?_
                rotate_left
                · intro w'
                  go_simp
                  with_reducible rfl
                rotate_left
                · simp only [Act.put, List.setIfInBounds_toArray, List.set_cons_zero, List.set_cons_succ, i64_w, i32_w]
                  rfl
                refine pure_ (i := 4) (N := some 21) (v := ?_) (a' := ?_) #[true, true, true, false, true, false, false, false, false, false] rfl rfl (any_of HT_.out (by kernel_rfl)) (fun _ _ _ h => h) (Or.inl ⟨by rfl, ?_⟩) ?_ ?_
                rotate_left
                · intro w'
                  go_simp
                  with_reducible rfl
                rotate_left
                · simp only [Act.put, List.setIfInBounds_toArray, List.set_cons_zero, List.set_cons_succ, i64_w, i32_w]
                  rfl
                refine pure_ (i := 5) (N := some 22) (v := ?_) (a' := ?_) #[true, true, true, false, true, true, false, false, false, false] rfl rfl (any_of HT_.out (by kernel_rfl)) (fun _ _ _ h => h) (Or.inl ⟨by rfl, ?_⟩) ?_ ?_
                rotate_left
                · intro w'
                  go_simp
                  with_reducible rfl
                rotate_left
                · simp only [Act.put, List.setIfInBounds_toArray, List.set_cons_zero, List.set_cons_succ, i64_w, i32_w]
                  rfl
                refine pure_ (i := 6) (N := some 23) (v := ?_) (a' := ?_) #[true, true, true, false, true, true, true, false, false, false] rfl rfl (any_of HT_.out (by kernel_rfl)) (fun _ _ _ h => h) (Or.inl ⟨by rfl, ?_⟩) ?_ ?_
                rotate_left
                · intro w'
                  go_simp
                  with_reducible rfl
                rotate_left
                · simp only [Act.put, List.setIfInBounds_toArray, List.set_cons_zero, List.set_cons_succ, i64_w, i32_w]
                  rfl
                refine take_ (i := 3) (N := some 20) (v := ?_) (a' := ?_) #[true, true, true, true, true, true, true, false, false, false] rfl rfl (take_ofW HT_.out HW_.out (by kernel_rfl)) (fun _ _ _ h => h) (Or.inl ⟨by rfl, ?_⟩) hHeld ?_ ?_
                rotate_left
                · rintro w' ⟨s0, s1, s2, s3, s4, s5, s6, s7, s8, s9, s10, s11, s12, s13, s14, s15, s16, s17, s18, s19, s20, s21, s22, s23, s24, s25, s26, s27⟩
                  go_simp
                  with_reducible rfl
                rotate_left
                · simp only [Act.put, List.setIfInBounds_toArray, List.set_cons_zero, List.set_cons_succ, i64_w, i32_w]
                  rfl
                refine take_ (i := 7) (N := some 24) (v := ?_) (a' := ?_) #[true, true, true, true, true, true, true, true, false, false] rfl rfl (take_ofW HT_.out HW_.out (by kernel_rfl)) (fun _ _ _ h => h) (Or.inl ⟨by rfl, ?_⟩) hHeld ?_ ?_
                rotate_left
                · rintro w' ⟨s0, s1, s2, s3, s4, s5, s6, s7, s8, s9, s10, s11, s12, s13, s14, s15, s16, s17, s18, s19, s20, s21, s22, s23, s24, s25, s26, s27⟩
                  go_simp
                  with_reducible rfl
                rotate_left
                · simp only [Act.put, List.setIfInBounds_toArray, List.set_cons_zero, List.set_cons_succ, i64_w, i32_w]
                  rfl
                refine one_ (i := 8) (N := some 25) #[true, true, true, true, true, true, true, true, true, false] rfl rfl (one_of HT_.out (by kernel_rfl)) (by decide) (fun K hK => ?_)
                refine goes_ Try.func23 (by kernel_rfl) rfl #[.agg #[.string ((rd_T35 l0 x5_1).f0.f0), .int .i64 ((rd_T35 l0 x5_1).f0.f1), .slice A162_2 ((rd_T35 l0 x5_1).f0.f2).length c162_2, .string ((rd_T35 l0 x5_1).f0.f3), .int .i64 ((rd_T35 l0 x5_1).f0.f4), .int .i64 ((rd_T35 l0 x5_1).f0.f5), .string ((rd_T35 l0 x5_1).f1.f0), .int .i64 ((rd_T35 l0 x5_1).f1.f1), .int .i64 ((rd_T35 l0 x5_1).f1.f2), .slice A162_9 ((rd_T35 l0 x5_1).f1.f3).length c162_9, .int .i64 ((rd_T35 l0 x5_1).f1.f4), .int .i64 ((rd_T35 l0 x5_1).f2), .int .i64 ((rd_T35 l0 x5_1).f3), .bool ((rd_T35 l0 x5_1).f4)], .agg #[.string ((rd_T35 l1 x5_1).f0.f0), .int .i64 ((rd_T35 l1 x5_1).f0.f1), .slice A163_2 ((rd_T35 l1 x5_1).f0.f2).length c163_2, .string ((rd_T35 l1 x5_1).f0.f3), .int .i64 ((rd_T35 l1 x5_1).f0.f4), .int .i64 ((rd_T35 l1 x5_1).f0.f5), .string ((rd_T35 l1 x5_1).f1.f0), .int .i64 ((rd_T35 l1 x5_1).f1.f1), .int .i64 ((rd_T35 l1 x5_1).f1.f2), .slice A163_9 ((rd_T35 l1 x5_1).f1.f3).length c163_9, .int .i64 ((rd_T35 l1 x5_1).f1.f4), .int .i64 ((rd_T35 l1 x5_1).f2), .int .i64 ((rd_T35 l1 x5_1).f3), .bool ((rd_T35 l1 x5_1).f4)]] (by rfl) rfl rfl (by (try simp only [List.map_toArray, List.map_cons, List.map_nil]); first | done | rfl | (simp only [List.length_drop, List.length_take]; rfl)) ?_
                with_reducible refine (larderlaw16_sameOp.calls k1 ((rd_T35 l0 x5_1).f0.f0) ((rd_T35 l0 x5_1).f0.f1) _ _ ((rd_T35 l0 x5_1).f0.f2) ((rd_T35 l0 x5_1).f0.f3) ((rd_T35 l0 x5_1).f0.f4) ((rd_T35 l0 x5_1).f0.f5) ((rd_T35 l0 x5_1).f1.f0) ((rd_T35 l0 x5_1).f1.f1) ((rd_T35 l0 x5_1).f1.f2) _ _ ((rd_T35 l0 x5_1).f1.f3) ((rd_T35 l0 x5_1).f1.f4) ((rd_T35 l0 x5_1).f2) ((rd_T35 l0 x5_1).f3) ((rd_T35 l0 x5_1).f4) ((rd_T35 l1 x5_1).f0.f0) ((rd_T35 l1 x5_1).f0.f1) _ _ ((rd_T35 l1 x5_1).f0.f2) ((rd_T35 l1 x5_1).f0.f3) ((rd_T35 l1 x5_1).f0.f4) ((rd_T35 l1 x5_1).f0.f5) ((rd_T35 l1 x5_1).f1.f0) ((rd_T35 l1 x5_1).f1.f1) ((rd_T35 l1 x5_1).f1.f2) _ _ ((rd_T35 l1 x5_1).f1.f3) ((rd_T35 l1 x5_1).f1.f4) ((rd_T35 l1 x5_1).f2) ((rd_T35 l1 x5_1).f3) ((rd_T35 l1 x5_1).f4) false _ ?side1 ?side2 ?side3 ?side4 ?side5 ?side6 ?side7 ?side8 A7.out).mono ?_
                (case side1 => repeat (first | exact (Kd.C_below HR162_2.out HB.out) | (with_reducible refine Kd.C_alloc ?_ _) | (with_reducible refine Kd.C_drewN ?_ _) | (with_reducible refine Kd.C_drew ?_)))
                (case side2 => exact HC162_2.out)
                (case side3 => repeat (first | exact (Kd.C_below HR162_9.out HB.out) | (with_reducible refine Kd.C_alloc ?_ _) | (with_reducible refine Kd.C_drewN ?_ _) | (with_reducible refine Kd.C_drew ?_)))
                (case side4 => exact HC162_9.out)
                (case side5 => repeat (first | exact (Kd.C_below HR163_2.out HB.out) | (with_reducible refine Kd.C_alloc ?_ _) | (with_reducible refine Kd.C_drewN ?_ _) | (with_reducible refine Kd.C_drew ?_)))
                (case side6 => exact HC163_2.out)
                (case side7 => repeat (first | exact (Kd.C_below HR163_9.out HB.out) | (with_reducible refine Kd.C_alloc ?_ _) | (with_reducible refine Kd.C_drewN ?_ _) | (with_reducible refine Kd.C_drew ?_)))
                (case side8 => exact HC163_9.out)
                rintro e w12 ⟨rfl, hb⟩
                refine ⟨_, rfl, ?_⟩
                have n0_ := Aside0.mk (below_step (by repeat (first | (with_reducible first | exact HB.out | apply below_alloc | apply pw_below_drewN | apply below_drew1) | exact HB.out)) hb)
                clear HB
                have HB := n0_
                clear n0_
                (try clear hb)
                (try clear hb2)
                (try clear hk)
                (try clear hi)
                refine hK.out _ _ ⟨((HB.out.cell (World.block_lt_of_cell? w _ hw162_0)).trans hw162_0), ((HB.out.cell (World.block_lt_of_cell? w _ hw162_1)).trans hw162_1), ((HB.out.cell (World.block_lt_of_cell? w _ hw162_2)).trans hw162_2), ((HB.out.cell (World.block_lt_of_cell? w _ hw162_3)).trans hw162_3), ((HB.out.cell (World.block_lt_of_cell? w _ hw162_4)).trans hw162_4), ((HB.out.cell (World.block_lt_of_cell? w _ hw162_5)).trans hw162_5), ((HB.out.cell (World.block_lt_of_cell? w _ hw162_6)).trans hw162_6), ((HB.out.cell (World.block_lt_of_cell? w _ hw162_7)).trans hw162_7), ((HB.out.cell (World.block_lt_of_cell? w _ hw162_8)).trans hw162_8), ((HB.out.cell (World.block_lt_of_cell? w _ hw162_9)).trans hw162_9), ((HB.out.cell (World.block_lt_of_cell? w _ hw162_10)).trans hw162_10), ((HB.out.cell (World.block_lt_of_cell? w _ hw162_11)).trans hw162_11), ((HB.out.cell (World.block_lt_of_cell? w _ hw162_12)).trans hw162_12), ((HB.out.cell (World.block_lt_of_cell? w _ hw162_13)).trans hw162_13), ((HB.out.cell (World.block_lt_of_cell? w _ hw163_0)).trans hw163_0), ((HB.out.cell (World.block_lt_of_cell? w _ hw163_1)).trans hw163_1), ((HB.out.cell (World.block_lt_of_cell? w _ hw163_2)).trans hw163_2), ((HB.out.cell (World.block_lt_of_cell? w _ hw163_3)).trans hw163_3), ((HB.out.cell (World.block_lt_of_cell? w _ hw163_4)).trans hw163_4), ((HB.out.cell (World.block_lt_of_cell? w _ hw163_5)).trans hw163_5), ((HB.out.cell (World.block_lt_of_cell? w _ hw163_6)).trans hw163_6), ((HB.out.cell (World.block_lt_of_cell? w _ hw163_7)).trans hw163_7), ((HB.out.cell (World.block_lt_of_cell? w _ hw163_8)).trans hw163_8), ((HB.out.cell (World.block_lt_of_cell? w _ hw163_9)).trans hw163_9), ((HB.out.cell (World.block_lt_of_cell? w _ hw163_10)).trans hw163_10), ((HB.out.cell (World.block_lt_of_cell? w _ hw163_11)).trans hw163_11), ((HB.out.cell (World.block_lt_of_cell? w _ hw163_12)).trans hw163_12), ((HB.out.cell (World.block_lt_of_cell? w _ hw163_13)).trans hw163_13)⟩ (fun hHeld => ?_)
                clear hK K
                refine norm_ (a' := ?_) ?_ ?_
                rotate_left
                · show Act.put _ (some 25) _ = _
                  simp only [Act.put, List.setIfInBounds_toArray, List.set_cons_zero, List.set_cons_succ, i64_w, i32_w]
                  rfl
                refine pure_ (i := 9) (N := some 26) (v := ?_) (a' := ?_) #[true, true, true, true, true, true, true, true, true, true] rfl rfl (any_of HT_.out (by kernel_rfl)) (fun _ _ _ h => h) (Or.inl ⟨by rfl, ?_⟩) ?_ ?_
                rotate_left
                · intro w'
                  go_simp
                  with_reducible rfl
                rotate_left
                · simp only [Act.put, List.setIfInBounds_toArray, List.set_cons_zero, List.set_cons_succ, i64_w, i32_w]
                  rfl
                refine done_ (done_of HT_.out (by kernel_rfl)) ?_
                try go_wp2
                go_ret
                exact ⟨by first | rfl | (simp [errW_none, errW_some] <;> rfl) | (simp [*, errW_none, errW_some] <;> rfl), by repeat (first | (with_reducible first | exact HB.out | apply below_alloc | apply pw_below_drewN | apply below_drew1) | exact HB.out)⟩
            · rw [if_neg c6] at H
              exact absurd H (by simp)
          · rw [if_neg c5] at H
            exact absurd H (by simp)
        · rw [if_neg c4] at H
          have c4b0 : decide (x5_1 < (l0.length : Int)) = false := decide_eq_false c4
          clear c4
          obtain rfl := Option.some.inj H
          go_wp2
          go_ret
          exact ⟨by first | rfl | (simp [errW_none, errW_some] <;> rfl) | (simp [*, errW_none, errW_some] <;> rfl), by repeat (first | (with_reducible first | exact HB.out | apply below_alloc | apply pw_below_drewN | apply below_drew1) | exact HB.out)⟩
  · rw [if_neg c3] at H
    have c3b0 : ((l0.length : Int) == (l1.length : Int)) = false := beq_eq_false_iff_ne.mpr c3
    have c3b1 : ((l0.length : Int) != (l1.length : Int)) = true := bne_iff_ne.mpr c3
    have c3b2 : (l0.length == l1.length) = false := by first | simpa using c3 | (simp at c3 ⊢; omega)
    obtain rfl := Option.some.inj H
    go_enter Try.func14, Try.ntmps14
    go_wp2
    go_ret
    exact ⟨by first | rfl | (simp [errW_none, errW_some] <;> rfl) | (simp [*, errW_none, errW_some] <;> rfl), by repeat (first | (with_reducible first | exact HB.out | apply below_alloc | apply pw_below_drewN | apply below_drew1) | exact HB.out)⟩

end Go.Proofs.Ytkjbbihnhbaipaa.PLinChecks
