/- PlanStrongs: the contract of the law. No condition. -/
import Derived.Test.YtoopoecopahcbaaPlStrong3
import Derived.Deep.RegionHeld3
namespace Go.Proofs.Ytoopoecopahcbaa.Fl
open Go Go.RowKit Ieee
set_option linter.unusedVariables false
set_option linter.unusedSimpArgs false

attribute [local go_sem] run_store_float run_store_complex
theorem setCell_drewN (w : World) (n : Nat) (a : Addr) (v : Value) : (w.drewN n).setCell a v = (w.setCell a v).drewN n := rfl
theorem drewN_drew (w : World) (n : Nat) : (w.drewN n).drew = w.drewN (n + 1) := rfl
theorem below_four {w w1 w2 : World} {o1 o2 o3 o4 : Obj} {n : Nat} (h1 : Below (((((w.alloc o1).alloc o2).alloc o3).alloc o4).drewN n).heap.size (((((w.alloc o1).alloc o2).alloc o3).alloc o4).drewN n) w1) (h2 : Below w1.heap.size w1 w2) : Below w.heap.size w w2 := by
  have e : ((((w.alloc o1).alloc o2).alloc o3).alloc o4).heap.size = w.heap.size + 4 := by simp
  have e' : (((((w.alloc o1).alloc o2).alloc o3).alloc o4).drewN n).heap.size = w.heap.size + 4 := e
  have hz := h1.size
  have h1' : Below w.heap.size ((((w.alloc o1).alloc o2).alloc o3).alloc o4) w1 := below_of_drewN h1 (by omega)
  exact (((((Below.refl w.heap.size w).alloc (Nat.le_refl _) o1).alloc (by simp) o2).alloc (by simp; omega) o3).alloc (by simp; omega) o4).trans (h1'.trans (h2.mono (by omega)))
theorem number_calls (r : Nat) (w : World) : Calls Try.prog 20 #[.float .f64 r, .float .f64 r] w fun e w' => e = .returned (.bool true) ∧ w = w' := by
  have h : ((FloatKind.f64.format.order r r == some .eq) = true ∧ (FloatKind.f64.format.order r r != some .eq) = false) ∨ ((FloatKind.f64.format.order r r == some .eq) = false ∧ (FloatKind.f64.format.order r r != some .eq) = true) := by
    rw [order_fmt, order_self]
    cases (D.read r).isNaN
    · exact .inl ⟨rfl, rfl⟩
    · exact .inr ⟨rfl, rfl⟩
  rcases h with ⟨h1, h2⟩ | ⟨h1, h2⟩
  all_goals
    go_enter Try.func20, Try.ntmps20
    go_wp2_with fail
    go_ret
    exact ⟨rfl, rfl⟩
def pC (a b : Nat → Nat) (k j : Nat) : Value := if j < k then .complex .f64 (a j) (b j) else .complex .f64 0 0
def qC (a : Nat → Nat) (k j : Nat) : Value := .float .f64 (if j < k then a j else 0)
def strongR (a b : Nat → Nat) : Int × Nat × Int :=
  if allGood a b = true then (if (D.order (sB (a 2) (b 2)) (sB (a 1) (b 1)) == some .gt) = true then (2, sB (a 2) (b 2), 0) else (1, sB (a 1) (b 1), 0)) else (0, 0, 172)
theorem strongV_R (a b : Nat → Nat) : strongV a b = .tuple #[.int .i64 (strongR a b).1, .float .f64 (strongR a b).2.1, .int .i64 (strongR a b).2.2] := by
  unfold strongV strongR
  split
  · split <;> rfl
  · rfl
set_option maxRecDepth 100000 in
set_option maxHeartbeats 8000000 in
theorem strongs_true (a b : Nat → Nat) (ha : ∀ j, a j < 18446744073709551616) (hb : ∀ j, b j < 18446744073709551616) (w : World) : Calls Try.prog 5 #[.agg #[.float .f64 (a 0), .float .f64 (a 1), .float .f64 (a 2), .float .f64 (a 3)], .agg #[.float .f64 (b 0), .float .f64 (b 1), .float .f64 (b 2), .float .f64 (b 3)]] w fun e w' => e = .returned (.bool true) ∧ Below w.heap.size w w' := by
  have P1 := Lib.hid (fun w => plan_calls a b ha hb w)
  have P2 := Lib.hid (fun w => ref_calls a b w)
  rw [strongV_R] at P1 P2
  clear ha hb
  go_enter Try.func5, Try.ntmps5
  go_wp2_with fail
  go_loopw [7] (fun v7 wr => ∃ k n : Nat, k ≤ 4 ∧ v7 = .int .i64 k ∧ wr = ((((w.alloc (.cells #[.float .f64 (a 0), .float .f64 (a 1), .float .f64 (a 2), .float .f64 (a 3)] 36 (0, 0))).alloc (.cells #[.float .f64 (b 0), .float .f64 (b 1), .float .f64 (b 2), .float .f64 (b 3)] 36 (0, 0))).alloc (.cells #[pC a b k 0, pC a b k 1, pC a b k 2, pC a b k 3] 38 (0, 0))).alloc (.cells #[qC a k 0, qC b k 0, qC a k 1, qC b k 1, qC a k 2, qC b k 2, qC a k 3, qC b k 3] 41 (0, 0))).drewN n) (fun v7 _ => 4 - (intOf v7).toNat)
  case atStart => exact ⟨0, 0, by omega, rfl, rfl⟩
  case round =>
    obtain ⟨k, n, hk, rfl, rfl⟩ := hrel
    have n1 : w.heap.size + 1 + 1 ≠ w.heap.size := by omega
    have n2 : w.heap.size + 1 + 1 + 1 ≠ w.heap.size := by omega
    have n3 : w.heap.size + 1 + 1 ≠ w.heap.size + 1 := by omega
    have n4 : w.heap.size + 1 + 1 + 1 ≠ w.heap.size + 1 := by omega
    rcases k with _ | _ | _ | _ | _ | k
    · simp only [pC, qC, Nat.reduceAdd, Nat.reduceLT, if_true, if_false]
      go_wp2_with fail
      go_region_held3 (fun w' => w'.cell? ⟨w.heap.size, 0, none⟩ = some (.float .f64 (a 0)) ∧ w'.cell? ⟨w.heap.size + 1, 0, none⟩ = some (.float .f64 (b 0))) (go_keep) (fail)
      all_goals
        go_wp2_with fail
        go_region_held3 (fun w' => w'.cell? ⟨w.heap.size, 0, none⟩ = some (.float .f64 (a 0)) ∧ w'.cell? ⟨w.heap.size + 1, 0, none⟩ = some (.float .f64 (b 0))) (go_keep) (fail)
        all_goals
          go_wp2_with fail
          go_roundw
          case rel => exact ⟨0 + 1, n + 1 + 1, by omega, by go_num, by simp [pC, qC, setCell_drewN, drewN_drew, World.setCell_alloc_past, World.setCell_alloc_at]⟩
          case measure => simp [intOf]
    · simp only [pC, qC, Nat.reduceAdd, Nat.reduceLT, if_true, if_false]
      go_wp2_with fail
      go_region_held3 (fun w' => w'.cell? ⟨w.heap.size, 1, none⟩ = some (.float .f64 (a 1)) ∧ w'.cell? ⟨w.heap.size + 1, 1, none⟩ = some (.float .f64 (b 1))) (go_keep) (fail)
      all_goals
        go_wp2_with fail
        go_region_held3 (fun w' => w'.cell? ⟨w.heap.size, 1, none⟩ = some (.float .f64 (a 1)) ∧ w'.cell? ⟨w.heap.size + 1, 1, none⟩ = some (.float .f64 (b 1))) (go_keep) (fail)
        all_goals
          go_wp2_with fail
          go_roundw
          case rel => exact ⟨1 + 1, n + 1 + 1, by omega, by go_num, by simp [pC, qC, setCell_drewN, drewN_drew, World.setCell_alloc_past, World.setCell_alloc_at]⟩
          case measure => simp [intOf]
    · simp only [pC, qC, Nat.reduceAdd, Nat.reduceLT, if_true, if_false]
      go_wp2_with fail
      go_region_held3 (fun w' => w'.cell? ⟨w.heap.size, 2, none⟩ = some (.float .f64 (a 2)) ∧ w'.cell? ⟨w.heap.size + 1, 2, none⟩ = some (.float .f64 (b 2))) (go_keep) (fail)
      all_goals
        go_wp2_with fail
        go_region_held3 (fun w' => w'.cell? ⟨w.heap.size, 2, none⟩ = some (.float .f64 (a 2)) ∧ w'.cell? ⟨w.heap.size + 1, 2, none⟩ = some (.float .f64 (b 2))) (go_keep) (fail)
        all_goals
          go_wp2_with fail
          go_roundw
          case rel => exact ⟨2 + 1, n + 1 + 1, by omega, by go_num, by simp [pC, qC, setCell_drewN, drewN_drew, World.setCell_alloc_past, World.setCell_alloc_at]⟩
          case measure => simp [intOf]
    · simp only [pC, qC, Nat.reduceAdd, Nat.reduceLT, if_true, if_false]
      go_wp2_with fail
      go_region_held3 (fun w' => w'.cell? ⟨w.heap.size, 3, none⟩ = some (.float .f64 (a 3)) ∧ w'.cell? ⟨w.heap.size + 1, 3, none⟩ = some (.float .f64 (b 3))) (go_keep) (fail)
      all_goals
        go_wp2_with fail
        go_region_held3 (fun w' => w'.cell? ⟨w.heap.size, 3, none⟩ = some (.float .f64 (a 3)) ∧ w'.cell? ⟨w.heap.size + 1, 3, none⟩ = some (.float .f64 (b 3))) (go_keep) (fail)
        all_goals
          go_wp2_with fail
          go_roundw
          case rel => exact ⟨3 + 1, n + 1 + 1, by omega, by go_num, by simp [pC, qC, setCell_drewN, drewN_drew, World.setCell_alloc_past, World.setCell_alloc_at]⟩
          case measure => simp [intOf]
    · simp only [pC, qC, Nat.reduceAdd, Nat.reduceLT, if_true, if_false]
      generalize hR : strongR a b = R at *
      clear hR
      obtain ⟨r1, r2, r3⟩ := R
      simp only at P1 P2
      go_wp2_with fail
      refine (P1.out _).mono ?_
      rintro e w1 ⟨rfl, hb1⟩
      obtain ⟨hc1, hf1⟩ := bcell hb1
      have hz := hb1.size
      have HB1 := Lib.hid hb1
      clear hb1
      go_wp2_with fail
      refine (P2.out _).mono ?_
      rintro e w2 ⟨rfl, hb2⟩
      have HB2 := Lib.hid hb2
      clear hb2 hc1 hf1 hz
      go_wp2_with (first | (go_at_call 20; refine (number_calls _ _).mono ?_; rintro e w3 ⟨rfl, rfl⟩))
      go_ret
      refine ⟨by rfl, ?_⟩
      have h1 := HB1.out
      have hz := h1.size
      have e4 : ∀ (o1 o2 o3 o4 : Obj) (n : Nat), (((((w.alloc o1).alloc o2).alloc o3).alloc o4).drewN n).heap.size = w.heap.size + 4 := fun o1 o2 o3 o4 n => by simp
      rw [e4] at hz
      exact below_four h1 HB2.out
    · omega
end Go.Proofs.Ytoopoecopahcbaa.Fl
