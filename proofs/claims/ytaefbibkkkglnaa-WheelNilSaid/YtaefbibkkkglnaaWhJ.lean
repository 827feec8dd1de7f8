/- Wheel: unhang in memory. No condition. -/
import Derived.Test.YtaefbibkkkglnaaWhI
import Derived.StillTailTactics
import Derived.Deep.RegionHeld3
import Derived.IntWalk
namespace Go.Proofs.Ytaefbibkkkglnaa.Wh
open Go Go.RowKit Go.Proofs.YtaefbibkkkglnaaW.PrintWords
set_option linter.unusedVariables false
set_option linter.unusedSimpArgs false

set_option maxRecDepth 100000 in
set_option maxHeartbeats 2000000 in
theorem unhang_nn (p b r : Nat) (a c : Int) (w : World) (v0 : Value) (ha : 0 ≤ a) (ha' : a ≤ 1099511627776) (hr : r < 7) (hc : 0 ≤ c) (hc' : c ≤ 1099511627776) (hpb : p ≠ b) (hbp : b ≠ p)
    (c1 : w.cell? ⟨b, 1, none⟩ = some (.int .i64 a)) (c2 : w.cell? ⟨b, 2, none⟩ = some (.int .i64 r)) (c3 : w.cell? ⟨b, 3, none⟩ = some (.pointer none)) (c4 : w.cell? ⟨b, 4, none⟩ = some (.pointer none)) (fp : ∀ i, w.frozen? ⟨p, i, none⟩ = false)
    (d1 : w.cell? ⟨p, 1 + 64 * r + dg r a, none⟩ = some v0) (d2 : w.cell? ⟨p, 449 + r, none⟩ = some (.int .i64 c)) :
    Calls Try.prog 31 #[.pointer (some ⟨p, 0, none⟩), .pointer (some ⟨b, 0, none⟩)] w fun e w' => e = .returned (.tuple #[]) ∧ ∃ n, w' = ((w.setCell ⟨p, 1 + 64 * r + dg r a, none⟩ (.pointer none)).setCell ⟨p, 449 + r, none⟩ (.int .i64 (c - 1))).drewN n := by
  go_enter Try.func31, Try.ntmps31
  go_wp2_with fail
  go_region_held3 (fun w' => w'.cell? ⟨b, 1, none⟩ = some (.int .i64 a) ∧ w'.cell? ⟨b, 2, none⟩ = some (.int .i64 r) ∧ w'.cell? ⟨b, 4, none⟩ = some (.pointer none)) (first | exact ⟨cso c1 (by simp [hpb, hbp]) _, cso c2 (by simp [hpb, hbp]) _, cso c4 (by simp [hpb, hbp]) _⟩ | go_keep) (first | (go_at_call 54; refine (place_calls p b a r _ hr ha ha' (by go_split_ands; assumption) (by go_split_ands; assumption)).mono ?_; rintro e w1 ⟨rfl, n1, rfl⟩))
  go_wp2_with fail
  have k2 : ((w.drewN (1 + n1)).setCell ⟨p, 1 + 64 * r + dg r a, none⟩ (.pointer none)).cell? ⟨b, 2, none⟩ = some (.int .i64 r) := cso' (w := (w.drewN (1 + n1))) c2 (by simp [hpb, hbp]) _
  have k3 : ((w.drewN (1 + n1)).setCell ⟨p, 1 + 64 * r + dg r a, none⟩ (.pointer none)).cell? ⟨p, 449 + r, none⟩ = some (.int .i64 c) := cso' (w := (w.drewN (1 + n1))) d2 (by have := dig_lt r a.toNat; unfold dg; intro e; injection e; omega) _
  have k4 : ∀ i, ((w.drewN (1 + n1)).setCell ⟨p, 1 + 64 * r + dg r a, none⟩ (.pointer none)).frozen? ⟨p, i, none⟩ = false := fun i => (World.frozen?_setCell _ _ _ _).trans (fp i)
  generalize hV : ((w.drewN (1 + n1)).setCell ⟨p, 1 + 64 * r + dg r a, none⟩ (.pointer none)) = V at k2 k3 k4 ⊢
  have HV := Aside0.mk hV
  clear hV
  have i0 : (0 : Int) ≤ (r : Int) := by omega
  have i1 : (r : Int) < 7 := by omega
  have i2 : IntKind.i64.wrap (c - 1) = c - 1 := IntWalk.i64_in _ (by omega)
  go_still_tail 13, (by kernel_rfl)
  go_wp2
  go_end0
  refine ⟨rfl, (1 + n1 + 1), ?_⟩
  rw [← HV.out]
  rfl

set_option maxRecDepth 100000 in
set_option maxHeartbeats 2000000 in
theorem unhang_ns (p b y r : Nat) (a c : Int) (w : World) (v0 : Value) (vy : Value) (ha : 0 ≤ a) (ha' : a ≤ 1099511627776) (hr : r < 7) (hc : 0 ≤ c) (hc' : c ≤ 1099511627776) (hpb : p ≠ b) (hbp : b ≠ p) (hyb : y ≠ b) (hby : b ≠ y) (hpy : p ≠ y) (hyp : y ≠ p) (cy : w.cell? ⟨y, 3, none⟩ = some vy) (fy : ∀ i, w.frozen? ⟨y, i, none⟩ = false)
    (c1 : w.cell? ⟨b, 1, none⟩ = some (.int .i64 a)) (c2 : w.cell? ⟨b, 2, none⟩ = some (.int .i64 r)) (c3 : w.cell? ⟨b, 3, none⟩ = some (.pointer none)) (c4 : w.cell? ⟨b, 4, none⟩ = some (.pointer (some ⟨y, 0, none⟩))) (fp : ∀ i, w.frozen? ⟨p, i, none⟩ = false)
    (d1 : w.cell? ⟨p, 1 + 64 * r + dg r a, none⟩ = some v0) (d2 : w.cell? ⟨p, 449 + r, none⟩ = some (.int .i64 c)) :
    Calls Try.prog 31 #[.pointer (some ⟨p, 0, none⟩), .pointer (some ⟨b, 0, none⟩)] w fun e w' => e = .returned (.tuple #[]) ∧ ∃ n, w' = (((w.setCell ⟨y, 3, none⟩ (.pointer none)).setCell ⟨p, 1 + 64 * r + dg r a, none⟩ (.pointer (some ⟨y, 0, none⟩))).setCell ⟨p, 449 + r, none⟩ (.int .i64 (c - 1))).drewN n := by
  go_enter Try.func31, Try.ntmps31
  go_wp2_with fail
  go_still_tail 10, (by kernel_rfl)
  go_wp2_with fail
  have e1 := cso (w := w) (a := ⟨y, 3, none⟩) c1 (by simp [hpb, hbp, hyb, hby, hpy, hyp]) (.pointer none)
  have e2 := cso (w := w) (a := ⟨y, 3, none⟩) c2 (by simp [hpb, hbp, hyb, hby, hpy, hyp]) (.pointer none)
  have e3 := cso (w := w) (a := ⟨y, 3, none⟩) c3 (by simp [hpb, hbp, hyb, hby, hpy, hyp]) (.pointer none)
  have e4 := cso (w := w) (a := ⟨y, 3, none⟩) c4 (by simp [hpb, hbp, hyb, hby, hpy, hyp]) (.pointer none)
  have e5 := cso (w := w) (a := ⟨y, 3, none⟩) d2 (by simp [hpb, hbp, hyb, hby, hpy, hyp]) (.pointer none)
  have e6 := cso (w := w) (a := ⟨y, 3, none⟩) d1 (by simp [hpb, hbp, hyb, hby, hpy, hyp]) (.pointer none)
  have g1 : ∀ i, (w.setCell ⟨y, 3, none⟩ (.pointer none)).drew.frozen? ⟨p, i, none⟩ = false := fun i => (World.frozen?_setCell _ _ _ _).trans (fp i)
  generalize hW : (w.setCell ⟨y, 3, none⟩ (.pointer none)).drew = W1 at e1 e2 e3 e4 e5 e6 g1  ⊢
  have HW := Aside0.mk hW
  clear hW c1 c2 c3 c4 d2 fp d1
  go_region_held3 (fun w' => w'.cell? ⟨b, 1, none⟩ = some (.int .i64 a) ∧ w'.cell? ⟨b, 2, none⟩ = some (.int .i64 r) ∧ w'.cell? ⟨b, 4, none⟩ = some (.pointer (some ⟨y, 0, none⟩))) (first | exact ⟨cso e1 (by simp [hpb, hbp, hyb, hby, hpy, hyp]) _, cso e2 (by simp [hpb, hbp, hyb, hby, hpy, hyp]) _, cso e4 (by simp [hpb, hbp, hyb, hby, hpy, hyp]) _⟩ | go_keep) (first | (go_at_call 54; refine (place_calls p b a r _ hr ha ha' (by go_split_ands; assumption) (by go_split_ands; assumption)).mono ?_; rintro e w1 ⟨rfl, n1, rfl⟩))
  go_wp2_with fail
  have k2 : ((W1.drewN (1 + n1)).setCell ⟨p, 1 + 64 * r + dg r a, none⟩ (.pointer (some ⟨y, 0, none⟩))).cell? ⟨b, 2, none⟩ = some (.int .i64 r) := cso' (w := (W1.drewN (1 + n1))) e2 (by simp [hpb, hbp, hyb, hby, hpy, hyp]) _
  have k3 : ((W1.drewN (1 + n1)).setCell ⟨p, 1 + 64 * r + dg r a, none⟩ (.pointer (some ⟨y, 0, none⟩))).cell? ⟨p, 449 + r, none⟩ = some (.int .i64 c) := cso' (w := (W1.drewN (1 + n1))) e5 (by have := dig_lt r a.toNat; unfold dg; intro e; injection e; omega) _
  have k4 : ∀ i, ((W1.drewN (1 + n1)).setCell ⟨p, 1 + 64 * r + dg r a, none⟩ (.pointer (some ⟨y, 0, none⟩))).frozen? ⟨p, i, none⟩ = false := fun i => (World.frozen?_setCell _ _ _ _).trans (g1 i)
  generalize hV : ((W1.drewN (1 + n1)).setCell ⟨p, 1 + 64 * r + dg r a, none⟩ (.pointer (some ⟨y, 0, none⟩))) = V at k2 k3 k4 ⊢
  have HV := Aside0.mk hV
  clear hV
  have i0 : (0 : Int) ≤ (r : Int) := by omega
  have i1 : (r : Int) < 7 := by omega
  have i2 : IntKind.i64.wrap (c - 1) = c - 1 := IntWalk.i64_in _ (by omega)
  go_still_tail 13, (by kernel_rfl)
  go_wp2
  go_end0
  refine ⟨rfl, ?_⟩
  rw [← HV.out, ← HW.out]
  exact drewN_of rfl rfl rfl rfl (by show w.drawn ≤ w.drawn + 1 + (1 + n1) + 1; omega)

set_option maxRecDepth 100000 in
set_option maxHeartbeats 2000000 in
theorem unhang_sn (p b x r : Nat) (a c : Int) (w : World) (vx : Value) (ha : 0 ≤ a) (ha' : a ≤ 1099511627776) (hr : r < 7) (hc : 0 ≤ c) (hc' : c ≤ 1099511627776) (hpb : p ≠ b) (hbp : b ≠ p) (hxb : x ≠ b) (hbx : b ≠ x) (hpx : p ≠ x) (hxp : x ≠ p) (cx : w.cell? ⟨x, 4, none⟩ = some vx) (fx : ∀ i, w.frozen? ⟨x, i, none⟩ = false)
    (c1 : w.cell? ⟨b, 1, none⟩ = some (.int .i64 a)) (c2 : w.cell? ⟨b, 2, none⟩ = some (.int .i64 r)) (c3 : w.cell? ⟨b, 3, none⟩ = some (.pointer (some ⟨x, 0, none⟩))) (c4 : w.cell? ⟨b, 4, none⟩ = some (.pointer none)) (fp : ∀ i, w.frozen? ⟨p, i, none⟩ = false)
    (d2 : w.cell? ⟨p, 449 + r, none⟩ = some (.int .i64 c)) :
    Calls Try.prog 31 #[.pointer (some ⟨p, 0, none⟩), .pointer (some ⟨b, 0, none⟩)] w fun e w' => e = .returned (.tuple #[]) ∧ ∃ n, w' = ((w.setCell ⟨x, 4, none⟩ (.pointer none)).setCell ⟨p, 449 + r, none⟩ (.int .i64 (c - 1))).drewN n := by
  go_enter Try.func31, Try.ntmps31
  go_wp2_with fail
  go_still_tail 10, (by kernel_rfl)
  go_wp2_with fail
  have k2 : (w.setCell ⟨x, 4, none⟩ (.pointer none)).drew.cell? ⟨b, 2, none⟩ = some (.int .i64 r) := cso' (w := w) c2 (by simp [hpb, hbp, hxb, hbx, hpx, hxp]) _
  have k3 : (w.setCell ⟨x, 4, none⟩ (.pointer none)).drew.cell? ⟨p, 449 + r, none⟩ = some (.int .i64 c) := cso' (w := w) d2 (by simp [hpb, hbp, hxb, hbx, hpx, hxp]) _
  have k4 : ∀ i, (w.setCell ⟨x, 4, none⟩ (.pointer none)).drew.frozen? ⟨p, i, none⟩ = false := fun i => (World.frozen?_setCell _ _ _ _).trans (fp i)
  generalize hV : (w.setCell ⟨x, 4, none⟩ (.pointer none)).drew = V at k2 k3 k4 ⊢
  have HV := Aside0.mk hV
  clear hV
  have i0 : (0 : Int) ≤ (r : Int) := by omega
  have i1 : (r : Int) < 7 := by omega
  have i2 : IntKind.i64.wrap (c - 1) = c - 1 := IntWalk.i64_in _ (by omega)
  go_still_tail 13, (by kernel_rfl)
  go_wp2
  go_end0
  refine ⟨rfl, (1 + 1), ?_⟩
  rw [← HV.out]
  rfl

set_option maxRecDepth 100000 in
set_option maxHeartbeats 2000000 in
theorem unhang_ss (p b x y r : Nat) (a c : Int) (w : World) (vx : Value) (vy : Value) (ha : 0 ≤ a) (ha' : a ≤ 1099511627776) (hr : r < 7) (hc : 0 ≤ c) (hc' : c ≤ 1099511627776) (hpb : p ≠ b) (hbp : b ≠ p) (hxb : x ≠ b) (hbx : b ≠ x) (hpx : p ≠ x) (hxp : x ≠ p) (cx : w.cell? ⟨x, 4, none⟩ = some vx) (fx : ∀ i, w.frozen? ⟨x, i, none⟩ = false) (hyb : y ≠ b) (hby : b ≠ y) (hpy : p ≠ y) (hyp : y ≠ p) (cy : w.cell? ⟨y, 3, none⟩ = some vy) (fy : ∀ i, w.frozen? ⟨y, i, none⟩ = false)
    (c1 : w.cell? ⟨b, 1, none⟩ = some (.int .i64 a)) (c2 : w.cell? ⟨b, 2, none⟩ = some (.int .i64 r)) (c3 : w.cell? ⟨b, 3, none⟩ = some (.pointer (some ⟨x, 0, none⟩))) (c4 : w.cell? ⟨b, 4, none⟩ = some (.pointer (some ⟨y, 0, none⟩))) (fp : ∀ i, w.frozen? ⟨p, i, none⟩ = false)
    (d2 : w.cell? ⟨p, 449 + r, none⟩ = some (.int .i64 c)) :
    Calls Try.prog 31 #[.pointer (some ⟨p, 0, none⟩), .pointer (some ⟨b, 0, none⟩)] w fun e w' => e = .returned (.tuple #[]) ∧ ∃ n, w' = (((w.setCell ⟨y, 3, none⟩ (.pointer (some ⟨x, 0, none⟩))).setCell ⟨x, 4, none⟩ (.pointer (some ⟨y, 0, none⟩))).setCell ⟨p, 449 + r, none⟩ (.int .i64 (c - 1))).drewN n := by
  go_enter Try.func31, Try.ntmps31
  go_wp2_with fail
  go_still_tail 10, (by kernel_rfl)
  go_wp2_with fail
  have e1 := cso (w := w) (a := ⟨y, 3, none⟩) c1 (by simp [hpb, hbp, hxb, hbx, hpx, hxp, hyb, hby, hpy, hyp]) (.pointer (some ⟨x, 0, none⟩))
  have e2 := cso (w := w) (a := ⟨y, 3, none⟩) c2 (by simp [hpb, hbp, hxb, hbx, hpx, hxp, hyb, hby, hpy, hyp]) (.pointer (some ⟨x, 0, none⟩))
  have e3 := cso (w := w) (a := ⟨y, 3, none⟩) c3 (by simp [hpb, hbp, hxb, hbx, hpx, hxp, hyb, hby, hpy, hyp]) (.pointer (some ⟨x, 0, none⟩))
  have e4 := cso (w := w) (a := ⟨y, 3, none⟩) c4 (by simp [hpb, hbp, hxb, hbx, hpx, hxp, hyb, hby, hpy, hyp]) (.pointer (some ⟨x, 0, none⟩))
  have e5 := cso (w := w) (a := ⟨y, 3, none⟩) d2 (by simp [hpb, hbp, hxb, hbx, hpx, hxp, hyb, hby, hpy, hyp]) (.pointer (some ⟨x, 0, none⟩))
  obtain ⟨vx', e6⟩ : ∃ vx', (w.setCell ⟨y, 3, none⟩ (.pointer (some ⟨x, 0, none⟩))).drew.cell? ⟨x, 4, none⟩ = some vx' := ⟨_, cso cx (by simp) _⟩
  have g1 : ∀ i, (w.setCell ⟨y, 3, none⟩ (.pointer (some ⟨x, 0, none⟩))).drew.frozen? ⟨p, i, none⟩ = false := fun i => (World.frozen?_setCell _ _ _ _).trans (fp i)
  have g2 : ∀ i, (w.setCell ⟨y, 3, none⟩ (.pointer (some ⟨x, 0, none⟩))).drew.frozen? ⟨x, i, none⟩ = false := fun i => (World.frozen?_setCell _ _ _ _).trans (fx i)
  generalize hW : (w.setCell ⟨y, 3, none⟩ (.pointer (some ⟨x, 0, none⟩))).drew = W1 at e1 e2 e3 e4 e5 e6 g1 g2 ⊢
  have HW := Aside0.mk hW
  clear hW c1 c2 c3 c4 d2 fp cx fx
  go_still_tail 10, (by kernel_rfl)
  go_wp2_with fail
  have k2 : (W1.setCell ⟨x, 4, none⟩ (.pointer (some ⟨y, 0, none⟩))).drew.cell? ⟨b, 2, none⟩ = some (.int .i64 r) := cso' (w := W1) e2 (by simp [hpb, hbp, hxb, hbx, hpx, hxp, hyb, hby, hpy, hyp]) _
  have k3 : (W1.setCell ⟨x, 4, none⟩ (.pointer (some ⟨y, 0, none⟩))).drew.cell? ⟨p, 449 + r, none⟩ = some (.int .i64 c) := cso' (w := W1) e5 (by simp [hpb, hbp, hxb, hbx, hpx, hxp, hyb, hby, hpy, hyp]) _
  have k4 : ∀ i, (W1.setCell ⟨x, 4, none⟩ (.pointer (some ⟨y, 0, none⟩))).drew.frozen? ⟨p, i, none⟩ = false := fun i => (World.frozen?_setCell _ _ _ _).trans (g1 i)
  generalize hV : (W1.setCell ⟨x, 4, none⟩ (.pointer (some ⟨y, 0, none⟩))).drew = V at k2 k3 k4 ⊢
  have HV := Aside0.mk hV
  clear hV
  have i0 : (0 : Int) ≤ (r : Int) := by omega
  have i1 : (r : Int) < 7 := by omega
  have i2 : IntKind.i64.wrap (c - 1) = c - 1 := IntWalk.i64_in _ (by omega)
  go_still_tail 13, (by kernel_rfl)
  go_wp2
  go_end0
  refine ⟨rfl, (1 + 1 + 1), ?_⟩
  rw [← HV.out, ← HW.out]
  rfl

end Go.Proofs.Ytaefbibkkkglnaa.Wh
