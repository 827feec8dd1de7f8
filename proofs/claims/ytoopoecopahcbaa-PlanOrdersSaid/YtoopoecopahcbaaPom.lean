/- PlanOrders: the law's walk, in three ways. No condition. -/
import Derived.Test.YtoopoecopahcbaaPo
namespace Go.Proofs.Ytoopoecopahcbaa.Po
set_option linter.unusedVariables false
set_option linter.unusedSimpArgs false
open Go.RowKit Go.Proofs.Ytoopoecopahcbaa.Qwithin Go.Proofs.Ytoopoecopahcbaa.QPlanOrders Go.Proofs.YtoopoecopahcbaaW.PrintWords Go.Proofs.YtoopoecopahcbaaW.PrintLast
set_option maxRecDepth 100000 in
set_option maxHeartbeats 8000000 in
theorem orders_yes (a0 a1 a2 a3 a4 h g p u k : Int) (w : World)
    (e0 : ∀ w, Calls Try.prog 17 #[.int .i64 a0, .int .i64 0, .int .i64 1073741824] w fun e w' => e = .returned (.int .i64 h) ∧ Drawn0 w w')
    (e1 : ∀ w, Calls Try.prog 17 #[.int .i64 a1, .int .i64 0, .int .i64 1073741824] w fun e w' => e = .returned (.int .i64 g) ∧ Drawn0 w w')
    (e2 : ∀ w, Calls Try.prog 17 #[.int .i64 a2, .int .i64 0, .int .i64 2147483648] w fun e w' => e = .returned (.int .i64 p) ∧ Drawn0 w w')
    (e3 : ∀ w, Calls Try.prog 17 #[.int .i64 a3, .int .i64 0, .int .i64 2147483648] w fun e w' => e = .returned (.int .i64 u) ∧ Drawn0 w w')
    (e4 : ∀ w, Calls Try.prog 17 #[.int .i64 a4, .int .i64 1, .int .i64 1048576] w fun e w' => e = .returned (.int .i64 k) ∧ Drawn0 w w')
    (h0 : 0 ≤ h) (h1 : h ≤ 1073741824) (g0 : 0 ≤ g) (g1 : g ≤ 1073741824) (p0 : 0 ≤ p) (p1 : p ≤ 2147483648) (u0 : 0 ≤ u) (u1 : u ≤ 2147483648) (k0 : 1 ≤ k) (k1 : k ≤ 1048576) (hcase : h + g ≤ p ∧ h + g < u) :
    Calls Try.prog 4 #[.int .i64 a0, .int .i64 a1, .int .i64 a2, .int .i64 a3, .int .i64 a4] w fun e w' => e = .returned (.bool true) ∧ Below w.heap.size w w' := by
  have hu24 := Try.underlying24
  have hu33 := Try.underlying33
  have hz24 : ∀ W : World, (zeroValue 24).run Try.prog W = .ok (.agg #[.string ⟨#[]⟩, .int .i64 0, .int .i64 0, .int .i64 0, .int .i64 0, .int .i64 0]) W := fun _ => by kernel_rfl
  have HC := Aside0.mk hcase
  clear hcase
  have E0 := Aside0.mk e0
  have E1 := Aside0.mk e1
  have E2 := Aside0.mk e2
  have E3 := Aside0.mk e3
  have E4 := Aside0.mk e4
  clear e0 e1 e2 e3 e4
  go_enter Try.func4, Try.ntmps4
  go_wp2_with fail
  refine (E0.out _).mono ?_
  rintro e w' ⟨rfl, ⟨n0, rfl⟩⟩
  go_wp2_with fail
  refine (E1.out _).mono ?_
  rintro e w' ⟨rfl, ⟨n1, rfl⟩⟩
  go_wp2_with fail
  refine (E2.out _).mono ?_
  rintro e w' ⟨rfl, ⟨n2, rfl⟩⟩
  go_wp2_with fail
  refine (E3.out _).mono ?_
  rintro e w' ⟨rfl, ⟨n3, rfl⟩⟩
  go_wp2_with fail
  refine (E4.out _).mono ?_
  rintro e w' ⟨rfl, ⟨n4, rfl⟩⟩
  clear E0 E1 E2 E3 E4
  go_wp2_with ((with_reducible refine gate_dst (N := 11) rfl ?_); refine box_event ?hg (N := 11) ?hd (cs := #[.string (⟨#[]⟩ : ByteArray), .int .i64 0, .int .i64 0, .int .i64 0, .int .i64 0, .int .i64 0]) (t := 24) ?hr ?_; (case hd => rfl); (case hg => rfl); (case hr => first | (go_simp; done) | (go_simp; rfl)); intro bX hgX wX hboxX hbX; have cX0 := (blk_cell hboxX 0).trans rfl; have cX1 := (blk_cell hboxX 1).trans rfl; have cX2 := (blk_cell hboxX 2).trans rfl; have cX3 := (blk_cell hboxX 3).trans rfl; have cX4 := (blk_cell hboxX 4).trans rfl; have cX5 := (blk_cell hboxX 5).trans rfl; have zX0 := blk_frozen hboxX 0; have zX1 := blk_frozen hboxX 1; have zX2 := blk_frozen hboxX 2; have zX3 := blk_frozen hboxX 3; have zX4 := blk_frozen hboxX 4; have zX5 := blk_frozen hboxX 5; have HXX := Aside0.mk hboxX; have HYX := Aside0.mk hbX; have HGX := Aside0.mk hgX; clear hboxX hbX hgX)
  have LX := blk_lt HXX.out
  have hbX : Below w.heap.size w wX := by first | exact (below_step (by repeat (first | exact Below.refl _ _ | apply pw_below_drewN)) HYX.out)
  have hgX : w.heap.size ≤ bX := by have := HGX.out; simp at this; omega
  refine (restock_yes _ ⟨#[120]⟩ rfl h g p u k _ (by go_simp) (by go_simp) (by go_simp) (by go_simp) (by go_simp) (by go_simp) (by omega) (by omega) (by omega) (by omega) (by omega) HC.out).mono ?_
  rintro e w2 ⟨⟨q, o, m, rfl, hq0, hq1, hq2⟩, hb2⟩
  have hbA : Below w.heap.size w w2 := below_step (by (apply below_alloc); (repeat (refine below_set ?_ hgX)); exact hbX) hb2
  have sX : bX < w2.heap.size := by have := hb2.size; simp at this; omega
  have d0 : w2.cell? ⟨bX, 0, none⟩ = some (.string ⟨#[120]⟩) := (hb2.cell (p := ⟨bX, 0, none⟩) (by simp; omega)).trans (by go_simp)
  have d1 : w2.cell? ⟨bX, 1, none⟩ = some (.int .i64 h) := (hb2.cell (p := ⟨bX, 1, none⟩) (by simp; omega)).trans (by go_simp)
  have d2 : w2.cell? ⟨bX, 2, none⟩ = some (.int .i64 g) := (hb2.cell (p := ⟨bX, 2, none⟩) (by simp; omega)).trans (by go_simp)
  have d3 : w2.cell? ⟨bX, 3, none⟩ = some (.int .i64 p) := (hb2.cell (p := ⟨bX, 3, none⟩) (by simp; omega)).trans (by go_simp)
  have d4 : w2.cell? ⟨bX, 4, none⟩ = some (.int .i64 u) := (hb2.cell (p := ⟨bX, 4, none⟩) (by simp; omega)).trans (by go_simp)
  have d5 : w2.cell? ⟨bX, 5, none⟩ = some (.int .i64 k) := (hb2.cell (p := ⟨bX, 5, none⟩) (by simp; omega)).trans (by go_simp)
  clear cX0 zX0 cX1 zX1 cX2 zX2 cX3 zX3 cX4 zX4 cX5 zX5
  have SX := Aside0.mk sX
  have HBA := Aside0.mk hbA
  clear hb2 hbA hbX hgX
  go_wp2_with fail
  refine (restock_no (w2.heap.size + 1) ⟨#[120]⟩ rfl (p + 1) 0 p u k _ (by go_simp) (by go_simp) (by go_simp) (by go_simp) (by go_simp) (by go_simp) (by omega) (by omega) (by omega) (by omega) (by omega) (by omega)).mono ?_
  rintro e w3 ⟨⟨A3, m3, rfl⟩, hb3⟩
  have hb3' : Below w2.heap.size w2 w3 := below_step (below_alloc (below_alloc (Below.refl _ _) _) _) hb3
  have hbB : Below w.heap.size w w3 := below_step HBA.out hb3'
  have f0 : w3.cell? ⟨bX, 0, none⟩ = some (.string ⟨#[120]⟩) := (hb3'.cell (p := ⟨bX, 0, none⟩) SX.out).trans d0
  have f1 : w3.cell? ⟨bX, 1, none⟩ = some (.int .i64 h) := (hb3'.cell (p := ⟨bX, 1, none⟩) SX.out).trans d1
  have f2 : w3.cell? ⟨bX, 2, none⟩ = some (.int .i64 g) := (hb3'.cell (p := ⟨bX, 2, none⟩) SX.out).trans d2
  have f3 : w3.cell? ⟨bX, 3, none⟩ = some (.int .i64 p) := (hb3'.cell (p := ⟨bX, 3, none⟩) SX.out).trans d3
  have f4 : w3.cell? ⟨bX, 4, none⟩ = some (.int .i64 u) := (hb3'.cell (p := ⟨bX, 4, none⟩) SX.out).trans d4
  have f5 : w3.cell? ⟨bX, 5, none⟩ = some (.int .i64 k) := (hb3'.cell (p := ⟨bX, 5, none⟩) SX.out).trans d5
  have sX3 : bX < w3.heap.size := Nat.lt_of_lt_of_le SX.out hb3'.size
  have hq0' := (hb3'.cell (p := ⟨q, o, none⟩) hq2).trans hq0
  have hq1' := (hb3'.cell (p := ⟨q, o + 1, none⟩) hq2).trans hq1
  have hq2' : q < w3.heap.size := Nat.lt_of_lt_of_le hq2 hb3'.size
  clear hq0 hq1 hq2
  clear d0 d1 d2 d3 d4 d5 hb3 hb3' HBA SX
  have SX := Aside0.mk sX3
  have HBB := Aside0.mk hbB
  clear hbB
  have nX3 : ¬ bX = w3.heap.size := by omega
  have nX3' : ¬ w3.heap.size = bX := by omega
  go_wp2_with fail
  refine (restock_yes (w3.heap.size + 1) ⟨#[120]⟩ rfl 0 0 p (u + 1) k _ (by go_simp) (by go_simp) (by go_simp) (by go_simp) (by go_simp) (by go_simp) (by omega) (by omega) (by omega) (by omega) (by omega) (by omega)).mono ?_
  rintro e w4 ⟨⟨q4, o4, m4, rfl, hr0, hr1, hr2⟩, hb4⟩
  have hb4' : Below w3.heap.size w3 w4 := below_step (below_alloc (below_alloc (Below.refl _ _) _) _) hb4
  have hbC : Below w.heap.size w w4 := below_step HBB.out hb4'
  have zU : w4.cell? ⟨w3.heap.size, 4, none⟩ = some (.int .i64 (u + 1)) := (hb4.cell (p := ⟨w3.heap.size, 4, none⟩) (by show w3.heap.size < ((w3.heap.push _).push _).size; rw [Array.size_push, Array.size_push]; omega)).trans (by go_simp)
  have g0 : w4.cell? ⟨bX, 0, none⟩ = some (.string ⟨#[120]⟩) := (hb4'.cell (p := ⟨bX, 0, none⟩) SX.out).trans f0
  have g1 : w4.cell? ⟨bX, 1, none⟩ = some (.int .i64 h) := (hb4'.cell (p := ⟨bX, 1, none⟩) SX.out).trans f1
  have g2 : w4.cell? ⟨bX, 2, none⟩ = some (.int .i64 g) := (hb4'.cell (p := ⟨bX, 2, none⟩) SX.out).trans f2
  have g3 : w4.cell? ⟨bX, 3, none⟩ = some (.int .i64 p) := (hb4'.cell (p := ⟨bX, 3, none⟩) SX.out).trans f3
  have g4 : w4.cell? ⟨bX, 4, none⟩ = some (.int .i64 u) := (hb4'.cell (p := ⟨bX, 4, none⟩) SX.out).trans f4
  have g5 : w4.cell? ⟨bX, 5, none⟩ = some (.int .i64 k) := (hb4'.cell (p := ⟨bX, 5, none⟩) SX.out).trans f5
  have hq0 := (hb4'.cell (p := ⟨q, o, none⟩) hq2').trans hq0'
  have hq1 := (hb4'.cell (p := ⟨q, o + 1, none⟩) hq2').trans hq1'
  clear hq0' hq1' hq2'
  clear f0 f1 f2 f3 f4 f5 hb4 hb4' HBB SX
  have HBC := Aside0.mk hbC
  clear hbC
  obtain ⟨Q4, eQ4, qa, qb, qc, qd, qe⟩ := qty (u + 1 - (0 + 0)) k (by omega) k0
  rw [eQ4] at hr1
  clear eQ4
  rw [show u + 1 - (0 + 0) = u + 1 by omega] at qa qb
  have y1 : decide (Q4 < u + 1) = false := decide_eq_false (by omega)
  have y2 : decide (u + 1 ≤ Q4 - k) = false := decide_eq_false (by omega)
  have y3 : ¬ k = 0 := by omega
  have hcase := HC.out
  obtain ⟨Q1, eQ1, ra, rb, rc, rd, re⟩ := qty (u - (h + g)) k (by omega) k0
  rw [eQ1] at hq1
  clear eQ1
  have y4 : decide (u ≤ h + g + Q1) = true := decide_eq_true (by omega)
  have y5 : decide (h + g + Q1 - k < u) = true := decide_eq_true (by omega)
  go_wp2_with fail
  go_quiet (fail)
  go_wp2
  go_quiet (fail)
  go_wp2
  go_ret
  exact ⟨rfl, by repeat (first | exact HBC.out | apply pw_below_drewN)⟩

set_option maxRecDepth 100000 in
set_option maxHeartbeats 8000000 in
theorem orders_no (a0 a1 a2 a3 a4 h g p u k : Int) (w : World)
    (e0 : ∀ w, Calls Try.prog 17 #[.int .i64 a0, .int .i64 0, .int .i64 1073741824] w fun e w' => e = .returned (.int .i64 h) ∧ Drawn0 w w')
    (e1 : ∀ w, Calls Try.prog 17 #[.int .i64 a1, .int .i64 0, .int .i64 1073741824] w fun e w' => e = .returned (.int .i64 g) ∧ Drawn0 w w')
    (e2 : ∀ w, Calls Try.prog 17 #[.int .i64 a2, .int .i64 0, .int .i64 2147483648] w fun e w' => e = .returned (.int .i64 p) ∧ Drawn0 w w')
    (e3 : ∀ w, Calls Try.prog 17 #[.int .i64 a3, .int .i64 0, .int .i64 2147483648] w fun e w' => e = .returned (.int .i64 u) ∧ Drawn0 w w')
    (e4 : ∀ w, Calls Try.prog 17 #[.int .i64 a4, .int .i64 1, .int .i64 1048576] w fun e w' => e = .returned (.int .i64 k) ∧ Drawn0 w w')
    (h0 : 0 ≤ h) (h1 : h ≤ 1073741824) (g0 : 0 ≤ g) (g1 : g ≤ 1073741824) (p0 : 0 ≤ p) (p1 : p ≤ 2147483648) (u0 : 0 ≤ u) (u1 : u ≤ 2147483648) (k0 : 1 ≤ k) (k1 : k ≤ 1048576) (hcase : p < h + g) :
    Calls Try.prog 4 #[.int .i64 a0, .int .i64 a1, .int .i64 a2, .int .i64 a3, .int .i64 a4] w fun e w' => e = .returned (.bool true) ∧ Below w.heap.size w w' := by
  have hu24 := Try.underlying24
  have hu33 := Try.underlying33
  have hz24 : ∀ W : World, (zeroValue 24).run Try.prog W = .ok (.agg #[.string ⟨#[]⟩, .int .i64 0, .int .i64 0, .int .i64 0, .int .i64 0, .int .i64 0]) W := fun _ => by kernel_rfl
  have HC := Aside0.mk hcase
  clear hcase
  have E0 := Aside0.mk e0
  have E1 := Aside0.mk e1
  have E2 := Aside0.mk e2
  have E3 := Aside0.mk e3
  have E4 := Aside0.mk e4
  clear e0 e1 e2 e3 e4
  go_enter Try.func4, Try.ntmps4
  go_wp2_with fail
  refine (E0.out _).mono ?_
  rintro e w' ⟨rfl, ⟨n0, rfl⟩⟩
  go_wp2_with fail
  refine (E1.out _).mono ?_
  rintro e w' ⟨rfl, ⟨n1, rfl⟩⟩
  go_wp2_with fail
  refine (E2.out _).mono ?_
  rintro e w' ⟨rfl, ⟨n2, rfl⟩⟩
  go_wp2_with fail
  refine (E3.out _).mono ?_
  rintro e w' ⟨rfl, ⟨n3, rfl⟩⟩
  go_wp2_with fail
  refine (E4.out _).mono ?_
  rintro e w' ⟨rfl, ⟨n4, rfl⟩⟩
  clear E0 E1 E2 E3 E4
  go_wp2_with ((with_reducible refine gate_dst (N := 11) rfl ?_); refine box_event ?hg (N := 11) ?hd (cs := #[.string (⟨#[]⟩ : ByteArray), .int .i64 0, .int .i64 0, .int .i64 0, .int .i64 0, .int .i64 0]) (t := 24) ?hr ?_; (case hd => rfl); (case hg => rfl); (case hr => first | (go_simp; done) | (go_simp; rfl)); intro bX hgX wX hboxX hbX; have cX0 := (blk_cell hboxX 0).trans rfl; have cX1 := (blk_cell hboxX 1).trans rfl; have cX2 := (blk_cell hboxX 2).trans rfl; have cX3 := (blk_cell hboxX 3).trans rfl; have cX4 := (blk_cell hboxX 4).trans rfl; have cX5 := (blk_cell hboxX 5).trans rfl; have zX0 := blk_frozen hboxX 0; have zX1 := blk_frozen hboxX 1; have zX2 := blk_frozen hboxX 2; have zX3 := blk_frozen hboxX 3; have zX4 := blk_frozen hboxX 4; have zX5 := blk_frozen hboxX 5; have HXX := Aside0.mk hboxX; have HYX := Aside0.mk hbX; have HGX := Aside0.mk hgX; clear hboxX hbX hgX)
  have LX := blk_lt HXX.out
  have hbX : Below w.heap.size w wX := by first | exact (below_step (by repeat (first | exact Below.refl _ _ | apply pw_below_drewN)) HYX.out)
  have hgX : w.heap.size ≤ bX := by have := HGX.out; simp at this; omega
  refine (restock_no _ ⟨#[120]⟩ rfl h g p u k _ (by go_simp) (by go_simp) (by go_simp) (by go_simp) (by go_simp) (by go_simp) (by omega) (by omega) (by omega) (by omega) (by omega) (by have := HC.out; omega)).mono ?_
  rintro e w2 ⟨⟨A2, m, rfl⟩, hb2⟩
  have hbA : Below w.heap.size w w2 := below_step (by (apply below_alloc); (repeat (refine below_set ?_ hgX)); exact hbX) hb2
  have sX : bX < w2.heap.size := by have := hb2.size; simp at this; omega
  have d0 : w2.cell? ⟨bX, 0, none⟩ = some (.string ⟨#[120]⟩) := (hb2.cell (p := ⟨bX, 0, none⟩) (by simp; omega)).trans (by go_simp)
  have d1 : w2.cell? ⟨bX, 1, none⟩ = some (.int .i64 h) := (hb2.cell (p := ⟨bX, 1, none⟩) (by simp; omega)).trans (by go_simp)
  have d2 : w2.cell? ⟨bX, 2, none⟩ = some (.int .i64 g) := (hb2.cell (p := ⟨bX, 2, none⟩) (by simp; omega)).trans (by go_simp)
  have d3 : w2.cell? ⟨bX, 3, none⟩ = some (.int .i64 p) := (hb2.cell (p := ⟨bX, 3, none⟩) (by simp; omega)).trans (by go_simp)
  have d4 : w2.cell? ⟨bX, 4, none⟩ = some (.int .i64 u) := (hb2.cell (p := ⟨bX, 4, none⟩) (by simp; omega)).trans (by go_simp)
  have d5 : w2.cell? ⟨bX, 5, none⟩ = some (.int .i64 k) := (hb2.cell (p := ⟨bX, 5, none⟩) (by simp; omega)).trans (by go_simp)
  clear cX0 zX0 cX1 zX1 cX2 zX2 cX3 zX3 cX4 zX4 cX5 zX5
  have SX := Aside0.mk sX
  have HBA := Aside0.mk hbA
  clear hb2 hbA hbX hgX
  go_wp2_with fail
  refine (restock_no (w2.heap.size + 1) ⟨#[120]⟩ rfl (p + 1) 0 p u k _ (by go_simp) (by go_simp) (by go_simp) (by go_simp) (by go_simp) (by go_simp) (by omega) (by omega) (by omega) (by omega) (by omega) (by omega)).mono ?_
  rintro e w3 ⟨⟨A3, m3, rfl⟩, hb3⟩
  have hb3' : Below w2.heap.size w2 w3 := below_step (below_alloc (below_alloc (Below.refl _ _) _) _) hb3
  have hbB : Below w.heap.size w w3 := below_step HBA.out hb3'
  have f0 : w3.cell? ⟨bX, 0, none⟩ = some (.string ⟨#[120]⟩) := (hb3'.cell (p := ⟨bX, 0, none⟩) SX.out).trans d0
  have f1 : w3.cell? ⟨bX, 1, none⟩ = some (.int .i64 h) := (hb3'.cell (p := ⟨bX, 1, none⟩) SX.out).trans d1
  have f2 : w3.cell? ⟨bX, 2, none⟩ = some (.int .i64 g) := (hb3'.cell (p := ⟨bX, 2, none⟩) SX.out).trans d2
  have f3 : w3.cell? ⟨bX, 3, none⟩ = some (.int .i64 p) := (hb3'.cell (p := ⟨bX, 3, none⟩) SX.out).trans d3
  have f4 : w3.cell? ⟨bX, 4, none⟩ = some (.int .i64 u) := (hb3'.cell (p := ⟨bX, 4, none⟩) SX.out).trans d4
  have f5 : w3.cell? ⟨bX, 5, none⟩ = some (.int .i64 k) := (hb3'.cell (p := ⟨bX, 5, none⟩) SX.out).trans d5
  have sX3 : bX < w3.heap.size := Nat.lt_of_lt_of_le SX.out hb3'.size
  skip
  clear d0 d1 d2 d3 d4 d5 hb3 hb3' HBA SX
  have SX := Aside0.mk sX3
  have HBB := Aside0.mk hbB
  clear hbB
  have nX3 : ¬ bX = w3.heap.size := by omega
  have nX3' : ¬ w3.heap.size = bX := by omega
  go_wp2_with fail
  refine (restock_yes (w3.heap.size + 1) ⟨#[120]⟩ rfl 0 0 p (u + 1) k _ (by go_simp) (by go_simp) (by go_simp) (by go_simp) (by go_simp) (by go_simp) (by omega) (by omega) (by omega) (by omega) (by omega) (by omega)).mono ?_
  rintro e w4 ⟨⟨q4, o4, m4, rfl, hr0, hr1, hr2⟩, hb4⟩
  have hb4' : Below w3.heap.size w3 w4 := below_step (below_alloc (below_alloc (Below.refl _ _) _) _) hb4
  have hbC : Below w.heap.size w w4 := below_step HBB.out hb4'
  have zU : w4.cell? ⟨w3.heap.size, 4, none⟩ = some (.int .i64 (u + 1)) := (hb4.cell (p := ⟨w3.heap.size, 4, none⟩) (by show w3.heap.size < ((w3.heap.push _).push _).size; rw [Array.size_push, Array.size_push]; omega)).trans (by go_simp)
  have g0 : w4.cell? ⟨bX, 0, none⟩ = some (.string ⟨#[120]⟩) := (hb4'.cell (p := ⟨bX, 0, none⟩) SX.out).trans f0
  have g1 : w4.cell? ⟨bX, 1, none⟩ = some (.int .i64 h) := (hb4'.cell (p := ⟨bX, 1, none⟩) SX.out).trans f1
  have g2 : w4.cell? ⟨bX, 2, none⟩ = some (.int .i64 g) := (hb4'.cell (p := ⟨bX, 2, none⟩) SX.out).trans f2
  have g3 : w4.cell? ⟨bX, 3, none⟩ = some (.int .i64 p) := (hb4'.cell (p := ⟨bX, 3, none⟩) SX.out).trans f3
  have g4 : w4.cell? ⟨bX, 4, none⟩ = some (.int .i64 u) := (hb4'.cell (p := ⟨bX, 4, none⟩) SX.out).trans f4
  have g5 : w4.cell? ⟨bX, 5, none⟩ = some (.int .i64 k) := (hb4'.cell (p := ⟨bX, 5, none⟩) SX.out).trans f5
  skip
  clear f0 f1 f2 f3 f4 f5 hb4 hb4' HBB SX
  have HBC := Aside0.mk hbC
  clear hbC
  obtain ⟨Q4, eQ4, qa, qb, qc, qd, qe⟩ := qty (u + 1 - (0 + 0)) k (by omega) k0
  rw [eQ4] at hr1
  clear eQ4
  rw [show u + 1 - (0 + 0) = u + 1 by omega] at qa qb
  have y1 : decide (Q4 < u + 1) = false := decide_eq_false (by omega)
  have y2 : decide (u + 1 ≤ Q4 - k) = false := decide_eq_false (by omega)
  have y3 : ¬ k = 0 := by omega
  have hcase := HC.out
  go_wp2_with fail
  go_quiet (fail)
  go_wp2
  skip
  go_ret
  exact ⟨rfl, by repeat (first | exact HBC.out | apply pw_below_drewN)⟩

set_option maxRecDepth 100000 in
set_option maxHeartbeats 8000000 in
theorem orders_no2 (a0 a1 a2 a3 a4 h g p u k : Int) (w : World)
    (e0 : ∀ w, Calls Try.prog 17 #[.int .i64 a0, .int .i64 0, .int .i64 1073741824] w fun e w' => e = .returned (.int .i64 h) ∧ Drawn0 w w')
    (e1 : ∀ w, Calls Try.prog 17 #[.int .i64 a1, .int .i64 0, .int .i64 1073741824] w fun e w' => e = .returned (.int .i64 g) ∧ Drawn0 w w')
    (e2 : ∀ w, Calls Try.prog 17 #[.int .i64 a2, .int .i64 0, .int .i64 2147483648] w fun e w' => e = .returned (.int .i64 p) ∧ Drawn0 w w')
    (e3 : ∀ w, Calls Try.prog 17 #[.int .i64 a3, .int .i64 0, .int .i64 2147483648] w fun e w' => e = .returned (.int .i64 u) ∧ Drawn0 w w')
    (e4 : ∀ w, Calls Try.prog 17 #[.int .i64 a4, .int .i64 1, .int .i64 1048576] w fun e w' => e = .returned (.int .i64 k) ∧ Drawn0 w w')
    (h0 : 0 ≤ h) (h1 : h ≤ 1073741824) (g0 : 0 ≤ g) (g1 : g ≤ 1073741824) (p0 : 0 ≤ p) (p1 : p ≤ 2147483648) (u0 : 0 ≤ u) (u1 : u ≤ 2147483648) (k0 : 1 ≤ k) (k1 : k ≤ 1048576) (hcase : h + g ≤ p ∧ u ≤ h + g) :
    Calls Try.prog 4 #[.int .i64 a0, .int .i64 a1, .int .i64 a2, .int .i64 a3, .int .i64 a4] w fun e w' => e = .returned (.bool true) ∧ Below w.heap.size w w' := by
  have hu24 := Try.underlying24
  have hu33 := Try.underlying33
  have hz24 : ∀ W : World, (zeroValue 24).run Try.prog W = .ok (.agg #[.string ⟨#[]⟩, .int .i64 0, .int .i64 0, .int .i64 0, .int .i64 0, .int .i64 0]) W := fun _ => by kernel_rfl
  have HC := Aside0.mk hcase
  clear hcase
  have E0 := Aside0.mk e0
  have E1 := Aside0.mk e1
  have E2 := Aside0.mk e2
  have E3 := Aside0.mk e3
  have E4 := Aside0.mk e4
  clear e0 e1 e2 e3 e4
  go_enter Try.func4, Try.ntmps4
  go_wp2_with fail
  refine (E0.out _).mono ?_
  rintro e w' ⟨rfl, ⟨n0, rfl⟩⟩
  go_wp2_with fail
  refine (E1.out _).mono ?_
  rintro e w' ⟨rfl, ⟨n1, rfl⟩⟩
  go_wp2_with fail
  refine (E2.out _).mono ?_
  rintro e w' ⟨rfl, ⟨n2, rfl⟩⟩
  go_wp2_with fail
  refine (E3.out _).mono ?_
  rintro e w' ⟨rfl, ⟨n3, rfl⟩⟩
  go_wp2_with fail
  refine (E4.out _).mono ?_
  rintro e w' ⟨rfl, ⟨n4, rfl⟩⟩
  clear E0 E1 E2 E3 E4
  go_wp2_with ((with_reducible refine gate_dst (N := 11) rfl ?_); refine box_event ?hg (N := 11) ?hd (cs := #[.string (⟨#[]⟩ : ByteArray), .int .i64 0, .int .i64 0, .int .i64 0, .int .i64 0, .int .i64 0]) (t := 24) ?hr ?_; (case hd => rfl); (case hg => rfl); (case hr => first | (go_simp; done) | (go_simp; rfl)); intro bX hgX wX hboxX hbX; have cX0 := (blk_cell hboxX 0).trans rfl; have cX1 := (blk_cell hboxX 1).trans rfl; have cX2 := (blk_cell hboxX 2).trans rfl; have cX3 := (blk_cell hboxX 3).trans rfl; have cX4 := (blk_cell hboxX 4).trans rfl; have cX5 := (blk_cell hboxX 5).trans rfl; have zX0 := blk_frozen hboxX 0; have zX1 := blk_frozen hboxX 1; have zX2 := blk_frozen hboxX 2; have zX3 := blk_frozen hboxX 3; have zX4 := blk_frozen hboxX 4; have zX5 := blk_frozen hboxX 5; have HXX := Aside0.mk hboxX; have HYX := Aside0.mk hbX; have HGX := Aside0.mk hgX; clear hboxX hbX hgX)
  have LX := blk_lt HXX.out
  have hbX : Below w.heap.size w wX := by first | exact (below_step (by repeat (first | exact Below.refl _ _ | apply pw_below_drewN)) HYX.out)
  have hgX : w.heap.size ≤ bX := by have := HGX.out; simp at this; omega
  refine (restock_no _ ⟨#[120]⟩ rfl h g p u k _ (by go_simp) (by go_simp) (by go_simp) (by go_simp) (by go_simp) (by go_simp) (by omega) (by omega) (by omega) (by omega) (by omega) (by have := HC.out; omega)).mono ?_
  rintro e w2 ⟨⟨A2, m, rfl⟩, hb2⟩
  have hbA : Below w.heap.size w w2 := below_step (by (apply below_alloc); (repeat (refine below_set ?_ hgX)); exact hbX) hb2
  have sX : bX < w2.heap.size := by have := hb2.size; simp at this; omega
  have d0 : w2.cell? ⟨bX, 0, none⟩ = some (.string ⟨#[120]⟩) := (hb2.cell (p := ⟨bX, 0, none⟩) (by simp; omega)).trans (by go_simp)
  have d1 : w2.cell? ⟨bX, 1, none⟩ = some (.int .i64 h) := (hb2.cell (p := ⟨bX, 1, none⟩) (by simp; omega)).trans (by go_simp)
  have d2 : w2.cell? ⟨bX, 2, none⟩ = some (.int .i64 g) := (hb2.cell (p := ⟨bX, 2, none⟩) (by simp; omega)).trans (by go_simp)
  have d3 : w2.cell? ⟨bX, 3, none⟩ = some (.int .i64 p) := (hb2.cell (p := ⟨bX, 3, none⟩) (by simp; omega)).trans (by go_simp)
  have d4 : w2.cell? ⟨bX, 4, none⟩ = some (.int .i64 u) := (hb2.cell (p := ⟨bX, 4, none⟩) (by simp; omega)).trans (by go_simp)
  have d5 : w2.cell? ⟨bX, 5, none⟩ = some (.int .i64 k) := (hb2.cell (p := ⟨bX, 5, none⟩) (by simp; omega)).trans (by go_simp)
  clear cX0 zX0 cX1 zX1 cX2 zX2 cX3 zX3 cX4 zX4 cX5 zX5
  have SX := Aside0.mk sX
  have HBA := Aside0.mk hbA
  clear hb2 hbA hbX hgX
  go_wp2_with fail
  refine (restock_no (w2.heap.size + 1) ⟨#[120]⟩ rfl (p + 1) 0 p u k _ (by go_simp) (by go_simp) (by go_simp) (by go_simp) (by go_simp) (by go_simp) (by omega) (by omega) (by omega) (by omega) (by omega) (by omega)).mono ?_
  rintro e w3 ⟨⟨A3, m3, rfl⟩, hb3⟩
  have hb3' : Below w2.heap.size w2 w3 := below_step (below_alloc (below_alloc (Below.refl _ _) _) _) hb3
  have hbB : Below w.heap.size w w3 := below_step HBA.out hb3'
  have f0 : w3.cell? ⟨bX, 0, none⟩ = some (.string ⟨#[120]⟩) := (hb3'.cell (p := ⟨bX, 0, none⟩) SX.out).trans d0
  have f1 : w3.cell? ⟨bX, 1, none⟩ = some (.int .i64 h) := (hb3'.cell (p := ⟨bX, 1, none⟩) SX.out).trans d1
  have f2 : w3.cell? ⟨bX, 2, none⟩ = some (.int .i64 g) := (hb3'.cell (p := ⟨bX, 2, none⟩) SX.out).trans d2
  have f3 : w3.cell? ⟨bX, 3, none⟩ = some (.int .i64 p) := (hb3'.cell (p := ⟨bX, 3, none⟩) SX.out).trans d3
  have f4 : w3.cell? ⟨bX, 4, none⟩ = some (.int .i64 u) := (hb3'.cell (p := ⟨bX, 4, none⟩) SX.out).trans d4
  have f5 : w3.cell? ⟨bX, 5, none⟩ = some (.int .i64 k) := (hb3'.cell (p := ⟨bX, 5, none⟩) SX.out).trans d5
  have sX3 : bX < w3.heap.size := Nat.lt_of_lt_of_le SX.out hb3'.size
  skip
  clear d0 d1 d2 d3 d4 d5 hb3 hb3' HBA SX
  have SX := Aside0.mk sX3
  have HBB := Aside0.mk hbB
  clear hbB
  have nX3 : ¬ bX = w3.heap.size := by omega
  have nX3' : ¬ w3.heap.size = bX := by omega
  go_wp2_with fail
  refine (restock_yes (w3.heap.size + 1) ⟨#[120]⟩ rfl 0 0 p (u + 1) k _ (by go_simp) (by go_simp) (by go_simp) (by go_simp) (by go_simp) (by go_simp) (by omega) (by omega) (by omega) (by omega) (by omega) (by omega)).mono ?_
  rintro e w4 ⟨⟨q4, o4, m4, rfl, hr0, hr1, hr2⟩, hb4⟩
  have hb4' : Below w3.heap.size w3 w4 := below_step (below_alloc (below_alloc (Below.refl _ _) _) _) hb4
  have hbC : Below w.heap.size w w4 := below_step HBB.out hb4'
  have zU : w4.cell? ⟨w3.heap.size, 4, none⟩ = some (.int .i64 (u + 1)) := (hb4.cell (p := ⟨w3.heap.size, 4, none⟩) (by show w3.heap.size < ((w3.heap.push _).push _).size; rw [Array.size_push, Array.size_push]; omega)).trans (by go_simp)
  have g0 : w4.cell? ⟨bX, 0, none⟩ = some (.string ⟨#[120]⟩) := (hb4'.cell (p := ⟨bX, 0, none⟩) SX.out).trans f0
  have g1 : w4.cell? ⟨bX, 1, none⟩ = some (.int .i64 h) := (hb4'.cell (p := ⟨bX, 1, none⟩) SX.out).trans f1
  have g2 : w4.cell? ⟨bX, 2, none⟩ = some (.int .i64 g) := (hb4'.cell (p := ⟨bX, 2, none⟩) SX.out).trans f2
  have g3 : w4.cell? ⟨bX, 3, none⟩ = some (.int .i64 p) := (hb4'.cell (p := ⟨bX, 3, none⟩) SX.out).trans f3
  have g4 : w4.cell? ⟨bX, 4, none⟩ = some (.int .i64 u) := (hb4'.cell (p := ⟨bX, 4, none⟩) SX.out).trans f4
  have g5 : w4.cell? ⟨bX, 5, none⟩ = some (.int .i64 k) := (hb4'.cell (p := ⟨bX, 5, none⟩) SX.out).trans f5
  skip
  clear f0 f1 f2 f3 f4 f5 hb4 hb4' HBB SX
  have HBC := Aside0.mk hbC
  clear hbC
  obtain ⟨Q4, eQ4, qa, qb, qc, qd, qe⟩ := qty (u + 1 - (0 + 0)) k (by omega) k0
  rw [eQ4] at hr1
  clear eQ4
  rw [show u + 1 - (0 + 0) = u + 1 by omega] at qa qb
  have y1 : decide (Q4 < u + 1) = false := decide_eq_false (by omega)
  have y2 : decide (u + 1 ≤ Q4 - k) = false := decide_eq_false (by omega)
  have y3 : ¬ k = 0 := by omega
  have hcase := HC.out
  go_wp2_with fail
  go_quiet (fail)
  go_wp2
  skip
  go_ret
  exact ⟨rfl, by repeat (first | exact HBC.out | apply pw_below_drewN)⟩

theorem orders_true (a0 a1 a2 a3 a4 : Int) (w : World) (w0 : (Lit.int .i64 a0).wf = true) (w1 : (Lit.int .i64 a1).wf = true) (w2 : (Lit.int .i64 a2).wf = true) (w3 : (Lit.int .i64 a3).wf = true) (w4 : (Lit.int .i64 a4).wf = true) :
    Calls Try.prog 4 #[.int .i64 a0, .int .i64 a1, .int .i64 a2, .int .i64 a3, .int .i64 a4] w fun e w' => e = .returned (.bool true) ∧ Below w.heap.size w w' := by
  obtain ⟨h, h0, h1, e0⟩ := within_calls a0 0 1073741824 w w0 (by omega) (by omega) (by omega)
  obtain ⟨g, g0, g1, e1⟩ := within_calls a1 0 1073741824 w w1 (by omega) (by omega) (by omega)
  obtain ⟨p, p0, p1, e2⟩ := within_calls a2 0 2147483648 w w2 (by omega) (by omega) (by omega)
  obtain ⟨u, u0, u1, e3⟩ := within_calls a3 0 2147483648 w w3 (by omega) (by omega) (by omega)
  obtain ⟨k, k0, k1, e4⟩ := within_calls a4 1 1048576 w w4 (by omega) (by omega) (by omega)
  by_cases c1 : h + g ≤ p
  · by_cases c2 : h + g < u
    · exact orders_yes a0 a1 a2 a3 a4 h g p u k w e0 e1 e2 e3 e4 h0 h1 g0 g1 p0 p1 u0 u1 k0 k1 ⟨c1, c2⟩
    · exact orders_no2 a0 a1 a2 a3 a4 h g p u k w e0 e1 e2 e3 e4 h0 h1 g0 g1 p0 p1 u0 u1 k0 k1 ⟨c1, by omega⟩
  · exact orders_no a0 a1 a2 a3 a4 h g p u k w e0 e1 e2 e3 e4 h0 h1 g0 g1 p0 p1 u0 u1 k0 k1 (by omega)
end Go.Proofs.Ytoopoecopahcbaa.Po

