/- PlanGrows: the contract of the law. No condition. -/
import Derived.Test.YtoopoecopahcbaaFl5
namespace Go.Proofs.Ytoopoecopahcbaa.Fl
open Go Go.RowKit Ieee
set_option linter.unusedVariables false
set_option linter.unusedSimpArgs false

def withinN (x : Int) : Nat := (if x < 0 then -(x + 1) else x).toNat
def withinF (x : Int) (lo hi : Nat) : Nat := lo + withinN x % (hi - lo + 1)
theorem withinF_le (x : Int) (lo hi : Nat) (h : lo ≤ hi) : lo ≤ withinF x lo hi ∧ withinF x lo hi ≤ hi := by
  unfold withinF
  have := Nat.mod_lt (withinN x) (show 0 < hi - lo + 1 by omega)
  omega
theorem within_wrap (n lo hi : Nat) (h : lo ≤ hi) (hh : hi ≤ 4611686018427387904) : wrap64 ((lo : Int) + (n : Int) % ((hi : Int) - (lo : Int) + 1)) = ((lo + n % (hi - lo + 1) : Nat) : Int) := by
  rw [show ((hi : Int) - (lo : Int) + 1) = ((hi - lo + 1 : Nat) : Int) by omega, show (n : Int) % ((hi - lo + 1 : Nat) : Int) = ((n % (hi - lo + 1) : Nat) : Int) from rfl]
  have hlt := Nat.mod_lt n (show 0 < hi - lo + 1 by omega)
  generalize n % (hi - lo + 1) = r at *
  unfold wrap64
  omega
theorem ret_int {k : IntKind} {a b : Int} (h : a = b) : Ending.returned (.int k a) = .returned (.int k b) := by rw [h]
set_option maxRecDepth 100000 in
theorem lwithin_calls (x : Int) (lo hi : Nat) (hx : (Lit.int .i64 x).wf = true) (h : lo ≤ hi) (hh : hi ≤ 4611686018427387904) (w : World) :
    Calls Try.prog 17 #[.int .i64 x, .int .i64 (lo : Int), .int .i64 (hi : Int)] w fun e w' => e = .returned (.int .i64 (withinF x lo hi : Nat)) ∧ w = w' := by
  obtain ⟨b1, b2⟩ := bounds_i64 hx
  clear hx
  have hd : ((hi : Int) - (lo : Int) + 1) ≠ 0 := by omega
  by_cases hx : x < 0
  · obtain ⟨n, hn⟩ := Int.eq_ofNat_of_zero_le (show 0 ≤ -(x + 1) by omega)
    have hfin := Lib.hid (show withinF x lo hi = lo + n % (hi - lo + 1) by unfold withinF withinN; rw [if_pos hx, hn]; rfl)
    have HW := Lib.hid (within_wrap n lo hi h hh)
    have d1 : decide (x < 0) = true := decide_eq_true hx
    have hb : (n : Int) ≤ 9223372036854775807 := by omega
    go_enter Try.func17, Try.ntmps17
    go_wp2_with fail
    go_ret
    exact ⟨by rw [hfin.out]; exact ret_int HW.out, rfl⟩
  · obtain ⟨n, rfl⟩ := Int.eq_ofNat_of_zero_le (show 0 ≤ x by omega)
    have hfin := Lib.hid (show withinF (n : Int) lo hi = lo + n % (hi - lo + 1) by unfold withinF withinN; rw [if_neg hx]; rfl)
    have HW := Lib.hid (within_wrap n lo hi h hh)
    have d1 : decide ((n : Int) < 0) = false := decide_eq_false hx
    clear hx
    go_enter Try.func17, Try.ntmps17
    go_wp2_with fail
    go_ret
    exact ⟨by rw [hfin.out]; exact ret_int HW.out, rfl⟩

theorem below_step_alloc {B : Nat} {w W w1 : World} {o : Obj} (h : Below B w W) (hB : B ≤ W.heap.size) (hb : Below (W.alloc o).heap.size (W.alloc o) w1) : Below B w w1 := (h.alloc hB o).trans (hb.mono (by rw [World.size_alloc]; omega))
theorem run_store_fl {P : Program} {w : World} {a : Addr} {m : Mode} (k : FloatKind) (b : Nat) : (store a (.float k b) m).run P w = stored P w a (.float k b) m := run_store P w a _ m rfl
attribute [local go_sem] run_store_fl
set_option maxRecDepth 100000 in
set_option maxHeartbeats 8000000 in
theorem grows_true (a0 a1 a2 a3 a4 : Int) (h0 : (Lit.int .i64 a0).wf = true) (h1 : (Lit.int .i64 a1).wf = true) (h2 : (Lit.int .i64 a2).wf = true) (h3 : (Lit.int .i64 a3).wf = true) (h4 : (Lit.int .i64 a4).wf = true) (w : World) :
    Calls Try.prog 11 #[.int .i64 a0, .int .i64 a1, .int .i64 a2, .int .i64 a3, .int .i64 a4] w fun e w' => e = .returned (.bool true) ∧ Below w.heap.size w w' := by
  have W0 := Lib.hid (fun w => lwithin_calls a0 0 1000000 h0 (by omega) (by omega) w)
  have W1 := Lib.hid (fun w => lwithin_calls a1 0 1000000 h1 (by omega) (by omega) w)
  have W2 := Lib.hid (fun w => lwithin_calls a2 0 5 h2 (by omega) (by omega) w)
  have W3 := Lib.hid (fun w => lwithin_calls a3 0 1000 h3 (by omega) (by omega) w)
  have W4 := Lib.hid (fun w => lwithin_calls a4 0 5 h4 (by omega) (by omega) w)
  have b0 := (withinF_le a0 0 1000000 (by omega)).2
  have b1 := (withinF_le a1 0 1000000 (by omega)).2
  have b2 := (withinF_le a2 0 5 (by omega)).2
  have b3 := (withinF_le a3 0 1000 (by omega)).2
  have b4 := (withinF_le a4 0 5 (by omega)).2
  generalize withinF a0 0 1000000 = m at *
  generalize withinF a1 0 1000000 = d at *
  generalize withinF a2 0 5 = z at *
  generalize withinF a3 0 1000 = l at *
  generalize withinF a4 0 5 = u at *
  obtain ⟨m2, d2, z2, am, ad, az, sm, sd, sz, p, q, r, s, ep, eq, er, es, et, o1, o2, o3, o4⟩ := grows b0 b1 b2 b3 b4
  have hi := mean_int b0
  have fm := floatOfInt_nat m
  have fd := floatOfInt_nat d
  have fz := floatOfInt_nat z
  have fu := floatOfInt_nat u
  have k : ∀ {c : Nat}, c ≤ 1000000 → rg c 0 < 18446744073709551616 := fun hc => Nat.lt_trans (whole_repr (by omega)).1 (by omega)
  have KM := k b0
  have KD := k b1
  have KZ := k (show z ≤ 1000000 by omega)
  clear h0 h1 h2 h3 h4 k
  generalize rg m 0 = M at *
  generalize rg d 0 = Dv at *
  generalize rg z 0 = Z at *
  generalize rg u 0 = Uw at *
  have P1 := Lib.hid (fun w => point_calls M Dv Z l KM KD KZ w)
  have P2 := Lib.hid (fun w => point_calls m2 Dv Z l sm KD KZ w)
  have P3 := Lib.hid (fun w => point_calls M d2 Z l KM sd KZ w)
  have P4 := Lib.hid (fun w => point_calls M Dv z2 l KM KD sz w)
  have P5 := Lib.hid (fun w => point_calls M 0 Z l KM (by decide) KZ w)
  unfold pointV at P1 P2 P3 P4 P5
  rw [ep] at P1
  rw [eq] at P2
  rw [er] at P3
  rw [es] at P4
  rw [et] at P5
  have r1 := add_run am
  have r2 := add_run ad
  have r3 := add_run az
  have r4 := toint_run hi
  have hml : m * l ≤ 1000000000 := Nat.mul_le_mul b0 b3
  have r5 : ((m : Int) * (l : Int)) = ((m * l : Nat) : Int) := by rw [Int.natCast_mul]
  have q1 : decide ((p : Int) ≤ (q : Int)) = true := decide_eq_true (by omega)
  have q2 : decide ((p : Int) ≤ (r : Int)) = true := decide_eq_true (by omega)
  have q3 : decide ((p : Int) ≤ (s : Int)) = true := decide_eq_true (by omega)
  have q4 : decide ((m : Int) * (l : Int) ≤ (p : Int)) = true := decide_eq_true (by rw [r5]; omega)
  clear am ad az sm sd sz KM KD KZ ep eq er es et hi r5
  go_enter Try.func11, Try.ntmps11
  go_wp2_with fail
  refine (W0.out _).mono ?_
  rintro e w1 ⟨rfl, rfl⟩
  go_wp2_with fail
  refine (W1.out _).mono ?_
  rintro e w1 ⟨rfl, rfl⟩
  go_wp2_with fail
  refine (W2.out _).mono ?_
  rintro e w1 ⟨rfl, rfl⟩
  go_wp2_with fail
  refine (W3.out _).mono ?_
  rintro e w1 ⟨rfl, rfl⟩
  go_wp2_with fail
  refine (W4.out _).mono ?_
  rintro e w1 ⟨rfl, rfl⟩
  go_wp2_with fail
  refine (P1.out _).mono ?_
  rintro e w1 ⟨rfl, hb⟩
  have hz := hb.size
  simp only [World.size_alloc] at hz
  have c10 : w1.cell? ⟨w.heap.size, 0, none⟩ = some (.float .f64 M) := (hb.cell (p := ⟨w.heap.size, 0, none⟩) (by simp)).trans ((cell_of_row _ _ _ _ _ (0, 0) (heap_alloc_new w _)).trans rfl)
  have c11 : w1.cell? ⟨w.heap.size, 1, none⟩ = some (.float .f64 Dv) := (hb.cell (p := ⟨w.heap.size, 1, none⟩) (by simp)).trans ((cell_of_row _ _ _ _ _ (0, 0) (heap_alloc_new w _)).trans rfl)
  have c12 : w1.cell? ⟨w.heap.size, 2, none⟩ = some (.float .f64 Z) := (hb.cell (p := ⟨w.heap.size, 2, none⟩) (by simp)).trans ((cell_of_row _ _ _ _ _ (0, 0) (heap_alloc_new w _)).trans rfl)
  have c13 : w1.cell? ⟨w.heap.size, 3, none⟩ = some (.int .i64 l) := (hb.cell (p := ⟨w.heap.size, 3, none⟩) (by simp)).trans ((cell_of_row _ _ _ _ _ (0, 0) (heap_alloc_new w _)).trans rfl)
  have l1 : w.heap.size < w1.heap.size := by omega
  have n1 : w1.heap.size ≠ w.heap.size := by omega
  have B1 := Lib.hid (below_step_alloc (Below.refl w.heap.size w) (Nat.le_refl _) hb)
  clear hb hz
  go_wp2_with fail
  refine (P2.out _).mono ?_
  rintro e w2 ⟨rfl, hb⟩
  have hz := hb.size
  simp only [World.size_alloc] at hz
  have c20 : w2.cell? ⟨w.heap.size, 0, none⟩ = some (.float .f64 M) := (hb.cell (p := ⟨w.heap.size, 0, none⟩) (by simp; omega)).trans ((World.cell?_alloc_lt _ _ _ l1).trans c10)
  have c21 : w2.cell? ⟨w.heap.size, 1, none⟩ = some (.float .f64 Dv) := (hb.cell (p := ⟨w.heap.size, 1, none⟩) (by simp; omega)).trans ((World.cell?_alloc_lt _ _ _ l1).trans c11)
  have c22 : w2.cell? ⟨w.heap.size, 2, none⟩ = some (.float .f64 Z) := (hb.cell (p := ⟨w.heap.size, 2, none⟩) (by simp; omega)).trans ((World.cell?_alloc_lt _ _ _ l1).trans c12)
  have c23 : w2.cell? ⟨w.heap.size, 3, none⟩ = some (.int .i64 l) := (hb.cell (p := ⟨w.heap.size, 3, none⟩) (by simp; omega)).trans ((World.cell?_alloc_lt _ _ _ l1).trans c13)
  have l2 : w.heap.size < w2.heap.size := by omega
  have n2 : w2.heap.size ≠ w.heap.size := by omega
  have B2 := Lib.hid (below_step_alloc B1.out B1.out.size hb)
  clear hb hz
  clear c10 c11 c12 c13 l1 n1
  go_wp2_with fail
  refine (P3.out _).mono ?_
  rintro e w3 ⟨rfl, hb⟩
  have hz := hb.size
  simp only [World.size_alloc] at hz
  have c30 : w3.cell? ⟨w.heap.size, 0, none⟩ = some (.float .f64 M) := (hb.cell (p := ⟨w.heap.size, 0, none⟩) (by simp; omega)).trans ((World.cell?_alloc_lt _ _ _ l2).trans c20)
  have c31 : w3.cell? ⟨w.heap.size, 1, none⟩ = some (.float .f64 Dv) := (hb.cell (p := ⟨w.heap.size, 1, none⟩) (by simp; omega)).trans ((World.cell?_alloc_lt _ _ _ l2).trans c21)
  have c32 : w3.cell? ⟨w.heap.size, 2, none⟩ = some (.float .f64 Z) := (hb.cell (p := ⟨w.heap.size, 2, none⟩) (by simp; omega)).trans ((World.cell?_alloc_lt _ _ _ l2).trans c22)
  have c33 : w3.cell? ⟨w.heap.size, 3, none⟩ = some (.int .i64 l) := (hb.cell (p := ⟨w.heap.size, 3, none⟩) (by simp; omega)).trans ((World.cell?_alloc_lt _ _ _ l2).trans c23)
  have l3 : w.heap.size < w3.heap.size := by omega
  have n3 : w3.heap.size ≠ w.heap.size := by omega
  have B3 := Lib.hid (below_step_alloc B2.out B2.out.size hb)
  clear hb hz
  clear c20 c21 c22 c23 l2 n2
  go_wp2_with fail
  refine (P4.out _).mono ?_
  rintro e w4 ⟨rfl, hb⟩
  have hz := hb.size
  simp only [World.size_alloc] at hz
  have c40 : w4.cell? ⟨w.heap.size, 0, none⟩ = some (.float .f64 M) := (hb.cell (p := ⟨w.heap.size, 0, none⟩) (by simp; omega)).trans ((World.cell?_alloc_lt _ _ _ l3).trans c30)
  have c41 : w4.cell? ⟨w.heap.size, 1, none⟩ = some (.float .f64 Dv) := (hb.cell (p := ⟨w.heap.size, 1, none⟩) (by simp; omega)).trans ((World.cell?_alloc_lt _ _ _ l3).trans c31)
  have c42 : w4.cell? ⟨w.heap.size, 2, none⟩ = some (.float .f64 Z) := (hb.cell (p := ⟨w.heap.size, 2, none⟩) (by simp; omega)).trans ((World.cell?_alloc_lt _ _ _ l3).trans c32)
  have c43 : w4.cell? ⟨w.heap.size, 3, none⟩ = some (.int .i64 l) := (hb.cell (p := ⟨w.heap.size, 3, none⟩) (by simp; omega)).trans ((World.cell?_alloc_lt _ _ _ l3).trans c33)
  have l4 : w.heap.size < w4.heap.size := by omega
  have n4 : w4.heap.size ≠ w.heap.size := by omega
  have B4 := Lib.hid (below_step_alloc B3.out B3.out.size hb)
  clear hb hz
  clear c30 c31 c32 c33 l3 n3
  go_wp2_with fail
  refine (P5.out _).mono ?_
  rintro e w5 ⟨rfl, hb⟩
  have hz := hb.size
  simp only [World.size_alloc] at hz
  have c50 : w5.cell? ⟨w.heap.size, 0, none⟩ = some (.float .f64 M) := (hb.cell (p := ⟨w.heap.size, 0, none⟩) (by simp; omega)).trans ((World.cell?_alloc_lt _ _ _ l4).trans c40)
  have c51 : w5.cell? ⟨w.heap.size, 1, none⟩ = some (.float .f64 Dv) := (hb.cell (p := ⟨w.heap.size, 1, none⟩) (by simp; omega)).trans ((World.cell?_alloc_lt _ _ _ l4).trans c41)
  have c52 : w5.cell? ⟨w.heap.size, 2, none⟩ = some (.float .f64 Z) := (hb.cell (p := ⟨w.heap.size, 2, none⟩) (by simp; omega)).trans ((World.cell?_alloc_lt _ _ _ l4).trans c42)
  have c53 : w5.cell? ⟨w.heap.size, 3, none⟩ = some (.int .i64 l) := (hb.cell (p := ⟨w.heap.size, 3, none⟩) (by simp; omega)).trans ((World.cell?_alloc_lt _ _ _ l4).trans c43)
  have l5 : w.heap.size < w5.heap.size := by omega
  have n5 : w5.heap.size ≠ w.heap.size := by omega
  have B5 := Lib.hid (below_step_alloc B4.out B4.out.size hb)
  clear hb hz
  clear c40 c41 c42 c43 l4 n4
  go_wp2_with fail
  go_ret
  exact ⟨rfl, B5.out⟩
end Go.Proofs.Ytoopoecopahcbaa.Fl
