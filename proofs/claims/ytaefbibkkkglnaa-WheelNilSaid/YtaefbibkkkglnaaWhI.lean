/- Wheel: hang and unhang in memory. No condition. -/
import Derived.Test.YtaefbibkkkglnaaWhH
import Derived.StillTailTactics
import Derived.Deep.RegionHeld3
import Derived.IntWalk
namespace Go.Proofs.Ytaefbibkkkglnaa.Wh
open Go Go.RowKit Go.Proofs.YtaefbibkkkglnaaW.PrintWords
set_option linter.unusedVariables false
set_option linter.unusedSimpArgs false

theorem cso {w : World} {q a : Addr} {v : Value} (h : w.cell? q = some v) (hne : a ≠ q) (x : Value) : (w.setCell a x).drew.cell? q = some v := by
  show (w.setCell a x).cell? q = some v
  rw [World.cell?_setCell_other _ _ _ _ hne, h]
theorem cs_same {w : World} {q : Addr} {v : Value} (h : w.cell? q = some v) {x : Value} : (w.setCell q x).drew.cell? q = some x := by
  show (w.setCell q x).cell? q = some x
  exact World.cell?_setCell_same _ _ _ h
theorem drewN_of {w w' : World} (ho : w'.os = w.os) (ht : w'.tape = w.tape) (hu : w'.output = w.output) (hh : w'.heap = w.heap) (hd : w.drawn ≤ w'.drawn) : ∃ n, w' = w.drewN n := by
  obtain ⟨h, t, d, o, u⟩ := w
  obtain ⟨h', t', d', o', u'⟩ := w'
  simp only at ho ht hu hh hd
  subst ho ht hu hh
  exact ⟨d' - d, by simp only [World.drewN]; congr 1; omega⟩
theorem cso' {w : World} {q a : Addr} {v : Value} (h : w.cell? q = some v) (hne : a ≠ q) (x : Value) : (w.setCell a x).cell? q = some v := by
  rw [World.cell?_setCell_other _ _ _ _ hne, h]
set_option maxRecDepth 100000 in
set_option maxHeartbeats 2000000 in
theorem hang_nil (p b : Nat) (a now c : Int) (w : World) (v2 v3 v4 : Value) (ha : 0 ≤ a) (ha' : a ≤ 1099511627776) (hn : 0 ≤ now) (hn' : now ≤ 1099511627776) (hr : rg a now < 7) (hc : 0 ≤ c) (hc' : c ≤ 1099511627776) (hpb : p ≠ b) (hbp : b ≠ p)
    (c1 : w.cell? ⟨b, 1, none⟩ = some (.int .i64 a)) (c2 : w.cell? ⟨b, 2, none⟩ = some v2) (c3 : w.cell? ⟨b, 3, none⟩ = some v3) (c4 : w.cell? ⟨b, 4, none⟩ = some v4) (fb : ∀ i, w.frozen? ⟨b, i, none⟩ = false) (fp : ∀ i, w.frozen? ⟨p, i, none⟩ = false)
    (d0 : w.cell? ⟨p, 0, none⟩ = some (.int .i64 now)) (d1 : w.cell? ⟨p, 1 + 64 * rg a now + dg (rg a now) a, none⟩ = some (.pointer none)) (d2 : w.cell? ⟨p, 449 + rg a now, none⟩ = some (.int .i64 c)) :
    Calls Try.prog 32 #[.pointer (some ⟨p, 0, none⟩), .pointer (some ⟨b, 0, none⟩)] w fun e w' => e = .returned (.tuple #[]) ∧ ∃ n, w' = (((((w.setCell ⟨b, 2, none⟩ (.int .i64 (rg a now))).setCell ⟨b, 3, none⟩ (.pointer none)).setCell ⟨b, 4, none⟩ (.pointer none)).setCell ⟨p, 1 + 64 * rg a now + dg (rg a now) a, none⟩ (.pointer (some ⟨b, 0, none⟩))).setCell ⟨p, 449 + rg a now, none⟩ (.int .i64 (c + 1))).drewN n := by
  generalize hR : rg a now = r at *
  have HR := Aside0.mk hR
  clear hR
  have HL : Aside0 (∀ w : World, Calls Try.prog 30 #[.int .i64 a, .int .i64 now] w fun e w' => e = .returned (.int .i64 r) ∧ w = w') := ⟨fun w => by
    have := level_calls a now w ha ha' hn hn'
    rw [HR.out] at this
    exact this⟩
  go_enter Try.func32, Try.ntmps32
  go_wp2_with fail
  go_region_held3 (fun w' => w'.cell? ⟨b, 1, none⟩ = some (.int .i64 a) ∧ w'.cell? ⟨p, 0, none⟩ = some (.int .i64 now)) (first | exact ⟨cso c1 (by simp) _, cso d0 (by simp [hbp]) _⟩ | go_keep) (first | (go_at_call 30; refine ((HL.out _)).mono ?_; rintro e w1 ⟨rfl, rfl⟩))
  go_wp2_with fail
  refine (place_calls p b a r _ hr ha ha' (cso c1 (by simp) _) (cs_same c2)).mono ?_
  rintro e w' ⟨rfl, n, rfl⟩
  have q1 := cso (w := w) (a := ⟨b, 2, none⟩) d1 (by simp [hbp]) (.int .i64 r)
  go_wp2_with fail
  have k2 : (((((w.setCell ⟨b, 2, none⟩ (.int .i64 r)).drewN (1 + n)).setCell ⟨b, 3, none⟩ (.pointer none)).setCell ⟨b, 4, none⟩ (.pointer none)).setCell ⟨p, 1 + 64 * r + dg r a, none⟩ (.pointer (some ⟨b, 0, none⟩))).cell? ⟨b, 2, none⟩ = some (.int .i64 r) := by
    refine cso' ?_ (by simp [hpb, hbp]) _
    refine cso' ?_ (by simp [hpb, hbp]) _
    refine cso' ?_ (by simp [hpb, hbp]) _
    exact cs_same c2
  have k3 : (((((w.setCell ⟨b, 2, none⟩ (.int .i64 r)).drewN (1 + n)).setCell ⟨b, 3, none⟩ (.pointer none)).setCell ⟨b, 4, none⟩ (.pointer none)).setCell ⟨p, 1 + 64 * r + dg r a, none⟩ (.pointer (some ⟨b, 0, none⟩))).cell? ⟨p, 449 + r, none⟩ = some (.int .i64 c) := by
    have := dig_lt r a.toNat
    refine cso' ?_ (by unfold dg; intro e; injection e; omega) _
    refine cso' ?_ (by simp [hpb, hbp]) _
    refine cso' ?_ (by simp [hpb, hbp]) _
    exact cso d2 (by simp [hbp]) _
  have k4 : ∀ i, (((((w.setCell ⟨b, 2, none⟩ (.int .i64 r)).drewN (1 + n)).setCell ⟨b, 3, none⟩ (.pointer none)).setCell ⟨b, 4, none⟩ (.pointer none)).setCell ⟨p, 1 + 64 * r + dg r a, none⟩ (.pointer (some ⟨b, 0, none⟩))).frozen? ⟨p, i, none⟩ = false := fun i => by
    rw [World.frozen?_setCell, World.frozen?_setCell, World.frozen?_setCell]
    exact (World.frozen?_setCell _ _ _ _).trans (fp i)
  generalize hW : (((((w.setCell ⟨b, 2, none⟩ (.int .i64 r)).drewN (1 + n)).setCell ⟨b, 3, none⟩ (.pointer none)).setCell ⟨b, 4, none⟩ (.pointer none)).setCell ⟨p, 1 + 64 * r + dg r a, none⟩ (.pointer (some ⟨b, 0, none⟩))) = W at k2 k3 k4 ⊢
  have HW := Aside0.mk hW
  clear hW
  have i0 : (0 : Int) ≤ (r : Int) := by omega
  have i1 : (r : Int) < 7 := by omega
  have i2 : IntKind.i64.wrap (c + 1) = c + 1 := IntWalk.i64_in _ (by omega)
  go_still_tail 13, (by kernel_rfl)
  go_wp2
  go_end0
  refine ⟨rfl, 1 + n + 1, ?_⟩
  rw [← HW.out]
  rfl
set_option maxRecDepth 100000 in
set_option maxHeartbeats 2000000 in
theorem hang_some (p b h : Nat) (a now c : Int) (w : World) (v2 v3 v4 v5 : Value) (ha : 0 ≤ a) (ha' : a ≤ 1099511627776) (hn : 0 ≤ now) (hn' : now ≤ 1099511627776) (hr : rg a now < 7) (hc : 0 ≤ c) (hc' : c ≤ 1099511627776) (hpb : p ≠ b) (hbp : b ≠ p) (hhb : h ≠ b) (hbh : b ≠ h) (hph : p ≠ h) (hhp : h ≠ p) (c5 : w.cell? ⟨h, 3, none⟩ = some v5) (fh : ∀ i, w.frozen? ⟨h, i, none⟩ = false)
    (c1 : w.cell? ⟨b, 1, none⟩ = some (.int .i64 a)) (c2 : w.cell? ⟨b, 2, none⟩ = some v2) (c3 : w.cell? ⟨b, 3, none⟩ = some v3) (c4 : w.cell? ⟨b, 4, none⟩ = some v4) (fb : ∀ i, w.frozen? ⟨b, i, none⟩ = false) (fp : ∀ i, w.frozen? ⟨p, i, none⟩ = false)
    (d0 : w.cell? ⟨p, 0, none⟩ = some (.int .i64 now)) (d1 : w.cell? ⟨p, 1 + 64 * rg a now + dg (rg a now) a, none⟩ = some (.pointer (some ⟨h, 0, none⟩))) (d2 : w.cell? ⟨p, 449 + rg a now, none⟩ = some (.int .i64 c)) :
    Calls Try.prog 32 #[.pointer (some ⟨p, 0, none⟩), .pointer (some ⟨b, 0, none⟩)] w fun e w' => e = .returned (.tuple #[]) ∧ ∃ n, w' = ((((((w.setCell ⟨b, 2, none⟩ (.int .i64 (rg a now))).setCell ⟨b, 3, none⟩ (.pointer none)).setCell ⟨b, 4, none⟩ (.pointer (some ⟨h, 0, none⟩))).setCell ⟨h, 3, none⟩ (.pointer (some ⟨b, 0, none⟩))).setCell ⟨p, 1 + 64 * rg a now + dg (rg a now) a, none⟩ (.pointer (some ⟨b, 0, none⟩))).setCell ⟨p, 449 + rg a now, none⟩ (.int .i64 (c + 1))).drewN n := by
  generalize hR : rg a now = r at *
  have HR := Aside0.mk hR
  clear hR
  have HL : Aside0 (∀ w : World, Calls Try.prog 30 #[.int .i64 a, .int .i64 now] w fun e w' => e = .returned (.int .i64 r) ∧ w = w') := ⟨fun w => by
    have := level_calls a now w ha ha' hn hn'
    rw [HR.out] at this
    exact this⟩
  go_enter Try.func32, Try.ntmps32
  go_wp2_with fail
  go_region_held3 (fun w' => w'.cell? ⟨b, 1, none⟩ = some (.int .i64 a) ∧ w'.cell? ⟨p, 0, none⟩ = some (.int .i64 now)) (first | exact ⟨cso c1 (by simp) _, cso d0 (by simp [hbp]) _⟩ | go_keep) (first | (go_at_call 30; refine ((HL.out _)).mono ?_; rintro e w1 ⟨rfl, rfl⟩))
  go_wp2_with fail
  refine (place_calls p b a r _ hr ha ha' (cso c1 (by simp) _) (cs_same c2)).mono ?_
  rintro e w' ⟨rfl, n, rfl⟩
  have q1 := cso (w := w) (a := ⟨b, 2, none⟩) d1 (by simp [hbp]) (.int .i64 r)
  go_wp2_with fail
  have k2 : ((((((w.setCell ⟨b, 2, none⟩ (.int .i64 r)).drewN (1 + n)).setCell ⟨b, 3, none⟩ (.pointer none)).setCell ⟨b, 4, none⟩ (.pointer (some ⟨h, 0, none⟩))).setCell ⟨h, 3, none⟩ (.pointer (some ⟨b, 0, none⟩))).setCell ⟨p, 1 + 64 * r + dg r a, none⟩ (.pointer (some ⟨b, 0, none⟩))).cell? ⟨b, 2, none⟩ = some (.int .i64 r) := by
    refine cso' ?_ (by simp [hpb, hbp, hhb, hbh, hph, hhp]) _
    refine cso' ?_ (by simp [hpb, hbp, hhb, hbh, hph, hhp]) _
    refine cso' ?_ (by simp [hpb, hbp, hhb, hbh, hph, hhp]) _
    refine cso' ?_ (by simp [hpb, hbp, hhb, hbh, hph, hhp]) _
    exact cs_same c2
  have k3 : ((((((w.setCell ⟨b, 2, none⟩ (.int .i64 r)).drewN (1 + n)).setCell ⟨b, 3, none⟩ (.pointer none)).setCell ⟨b, 4, none⟩ (.pointer (some ⟨h, 0, none⟩))).setCell ⟨h, 3, none⟩ (.pointer (some ⟨b, 0, none⟩))).setCell ⟨p, 1 + 64 * r + dg r a, none⟩ (.pointer (some ⟨b, 0, none⟩))).cell? ⟨p, 449 + r, none⟩ = some (.int .i64 c) := by
    have := dig_lt r a.toNat
    refine cso' ?_ (by unfold dg; intro e; injection e; omega) _
    refine cso' ?_ (by simp [hpb, hbp, hhb, hbh, hph, hhp]) _
    refine cso' ?_ (by simp [hpb, hbp, hhb, hbh, hph, hhp]) _
    refine cso' ?_ (by simp [hpb, hbp, hhb, hbh, hph, hhp]) _
    exact cso d2 (by simp [hbp]) _
  have k4 : ∀ i, ((((((w.setCell ⟨b, 2, none⟩ (.int .i64 r)).drewN (1 + n)).setCell ⟨b, 3, none⟩ (.pointer none)).setCell ⟨b, 4, none⟩ (.pointer (some ⟨h, 0, none⟩))).setCell ⟨h, 3, none⟩ (.pointer (some ⟨b, 0, none⟩))).setCell ⟨p, 1 + 64 * r + dg r a, none⟩ (.pointer (some ⟨b, 0, none⟩))).frozen? ⟨p, i, none⟩ = false := fun i => by
    rw [World.frozen?_setCell, World.frozen?_setCell, World.frozen?_setCell, World.frozen?_setCell]
    exact (World.frozen?_setCell _ _ _ _).trans (fp i)
  generalize hW : ((((((w.setCell ⟨b, 2, none⟩ (.int .i64 r)).drewN (1 + n)).setCell ⟨b, 3, none⟩ (.pointer none)).setCell ⟨b, 4, none⟩ (.pointer (some ⟨h, 0, none⟩))).setCell ⟨h, 3, none⟩ (.pointer (some ⟨b, 0, none⟩))).setCell ⟨p, 1 + 64 * r + dg r a, none⟩ (.pointer (some ⟨b, 0, none⟩))) = W at k2 k3 k4 ⊢
  have HW := Aside0.mk hW
  clear hW
  have i0 : (0 : Int) ≤ (r : Int) := by omega
  have i1 : (r : Int) < 7 := by omega
  have i2 : IntKind.i64.wrap (c + 1) = c + 1 := IntWalk.i64_in _ (by omega)
  go_still_tail 13, (by kernel_rfl)
  go_wp2
  go_end0
  refine ⟨rfl, 1 + n + 1, ?_⟩
  rw [← HW.out]
  rfl
end Go.Proofs.Ytaefbibkkkglnaa.Wh
