/- WheelNil: the contract of the law. No condition. -/
import Derived.Test.YtaefbibkkkglnaaWhNi
import Derived.OpenShut
namespace Go.Proofs.Ytaefbibkkkglnaa.Wh
open Go Go.RowKit Go.Shelf Go.Proofs.YtaefbibkkkglnaaW.PrintWords Go.Proofs.Ytaefbibkkkglnaa.Fr
set_option linter.unusedVariables false
set_option linter.unusedSimpArgs false
attribute [local go_sem] Oper.semAt_some
theorem each_nn2 (b : Nat) (w : World) : (binOp BinOp.neq 40 (.func (.func 39) #[] #[.pointer (some ⟨b, 0, none⟩)]) .nilFunc).run Try.prog w = .ok (.bool true) w := by kernel_rfl
set_option maxRecDepth 100000 in
set_option maxHeartbeats 4000000 in
theorem nil_main (w : World) : CallsIn Fence.wide 6 Try.prog 9 #[] w fun e w' => e = .returned (.bool true) ∧ Below w.heap.size w w' := by
  have hC : Kd.C (Kd.int .i64) ((w.alloc (.cells #[.bool false] 4 (0, 0))).alloc (.cells #[.int .i64 4] 3 (0, 0))) (some ⟨w.heap.size + 1, 0, none⟩) [(4 : Int)].length [4] := by
    refine ⟨rfl, by simp, fun _ => ⟨_, rfl, fun j p hp => ?_⟩⟩
    match j, hp with
    | 0, hp =>
      simp at hp
      subst hp
      refine ⟨[.int .i64 4], rfl, rfl, fun i u hu => ?_⟩
      match i, hu with
      | 0, hu =>
        simp at hu
        subst hu
        have h := (Boxed.new (w.alloc (.cells #[.bool false] 4 (0, 0))) 3 (.int .i64 4)).cell
        rw [World.size_alloc] at h
        exact h
  have HFI := Aside0.mk (filled_calls 0 _ 1 [4] _ (by omega) (by omega) (fun x hx => by simp at hx; omega) hC (by simp) (by simp))
  rw [show [(4 : Int)].length = 1 from rfl, fill_one] at HFI
  clear hC
  refine callsIn_of_wp_marks Try.func9 rfl trivial ?_ rfl
  simp only [Try.ntmps9, List.size_toArray, List.length_cons, List.length_nil, Nat.reduceAdd, Nat.reduceSub, Array.replicate_succ, Array.replicate_zero, List.push_toArray, List.append_toArray, List.nil_append, List.cons_append]
  gi_wp2
  refine ⟨trivial, (callsIn_wide.2 HFI.out).mono ?_⟩
  rintro e w1 ⟨p, O, rfl, hW, hO, hB⟩
  simp only [World.size_alloc] at hO hB
  have b0 : Boxed w1 w.heap.size 4 (.bool false) := (hB.block _ (by omega)).trans ((Boxed.new w 4 _).alloc _)
  have hB1 : Below w.heap.size w w1 := (below_alloc (below_alloc (Below.refl _ w) _) _).trans (hB.mono (by omega))
  gi_wp2
  refine ⟨trivial, (callsIn_wide.2 (advance_calls hW 5 (by omega) (by omega) (by omega))).mono ?_⟩
  rintro e w2 ⟨v2, rfl, hR, -, hO2⟩
  rw [told_one] at hR
  obtain ⟨A, c, rfl, hc, hC⟩ := Kd.R_reads hR
  obtain ⟨ad, rfl, c1⟩ := at_S hC 0 (by simp)
  have b2 : Boxed w2 w.heap.size 4 (.bool false) := (hO2.block _ b0.lt (fun h => by have := hO _ h; omega)).trans b0
  have hB2 : Below w.heap.size w w2 := hO2.below_of hB1 hB1.size (fun k hk h => by have := hO k h; omega)
  clear hR hC hO2 b0 hB1 hW hO hB HFI
  have c1' : w2.cell? ad = some (.string ⟨#[97, 97, 97]⟩) := c1
  gi_wp2
  refine ⟨trivial, (callsIn_wide.2 (nil_at _ _)).mono ?_⟩
  rintro e w' ⟨rfl, rfl⟩
  gi_wp2
  refine ⟨trivial, (callsIn_wide.2 (nil_advance _ _)).mono ?_⟩
  rintro e w' ⟨rfl, rfl⟩
  gi_wp2
  refine ⟨trivial, (callsIn_wide.2 (nil_next _)).mono ?_⟩
  rintro e w' ⟨rfl, rfl⟩
  gi_wp2
  refine ⟨trivial, (callsIn_wide.2 (nil_add _ _ _)).mono ?_⟩
  rintro e w' ⟨rfl, rfl⟩
  gi_wp2
  refine ⟨trivial, (callsIn_wide.2 (nil_change _ _ _)).mono ?_⟩
  rintro e w' ⟨rfl, rfl⟩
  gi_wp2
  refine ⟨trivial, (callsIn_wide.2 (nil_remove _ _)).mono ?_⟩
  rintro e w' ⟨rfl, rfl⟩
  gi_wp2
  refine ⟨trivial, (callsIn_wide.2 (nil_now _)).mono ?_⟩
  rintro e w' ⟨rfl, rfl⟩
  gi_wp2
  refine ⟨trivial, (callsIn_wide.2 (nil_len _)).mono ?_⟩
  rintro e w' ⟨rfl, rfl⟩
  gi_wp2
  obtain ⟨w3, hw3⟩ : ∃ w3, w2.alloc (.cells #[.int .i64 0, .int .i64 0, .int .i64 0, .int .i64 0, .int .i64 0, .int .i64 0, .int .i64 0] 36 (0, 0)) = w3 := ⟨_, rfl⟩
  have ha3 : w3.heap[w2.heap.size]? = some (.cells #[.int .i64 0, .int .i64 0, .int .i64 0, .int .i64 0, .int .i64 0, .int .i64 0, .int .i64 0] 36 (0, 0)) := by rw [← hw3]; exact heap_alloc_new _ _
  have b3 : Boxed w3 w.heap.size 4 (.bool false) := by rw [← hw3]; exact b2.alloc _
  have hB3 : Below w.heap.size w w3 := by rw [← hw3]; exact below_alloc hB2 _
  have hz3 : w3.heap.size = w2.heap.size + 1 := by rw [← hw3, World.size_alloc]
  have hlt2 : w.heap.size < w2.heap.size := b2.lt
  rw [hw3]
  clear hw3 c1 c1' hB2 b2
  refine ⟨trivial, (callsIn_wide.2 (nil_each w3)).mono ?_⟩
  rintro e w4 ⟨rfl, hbox, hsz, hB4⟩
  have ha4 : w4.heap[w2.heap.size]? = some (.cells #[.int .i64 0, .int .i64 0, .int .i64 0, .int .i64 0, .int .i64 0, .int .i64 0, .int .i64 0] 36 (0, 0)) := (hB4.block _ (by omega)).trans ha3
  have b4 : Boxed w4 w.heap.size 4 (.bool false) := (hB4.block _ (by omega)).trans b3
  have hB4' : Below w.heap.size w w4 := hB3.trans (hB4.mono hB3.size)
  have hnn := each_nn2 w3.heap.size w4
  have hi1 : w2.heap.size < w3.heap.size := by omega
  clear ha3 b3 hB3 hB4 hz3
  generalize w3.heap.size = g3 at *
  gi_wp2
  refine wpIn_rangeFunc_ownG rfl (by omega) (gf := 39) (lb := #[.pointer (some ⟨g3, 0, none⟩)]) rfl trivial (enters_of Try.func39 (by kernel_rfl) rfl)
    (each2_stops Fence.wide 5 trivial rfl (by omega) g3 none 0 [] w4 hbox ⟨rfl, by simp, fun h => by simp at h⟩ (by simp) (fun b => w4.heap.size ≤ b) (by omega) (fun hne => absurd rfl hne))
    (fun h k => h.trans k) (fun W l o o' hl h _ _ => Only.of_grown' (grownBy_putObj' W l o') hl) (Below.refl _ _) (fun _ => rfl)
    (fun pre W => Boxed W w.heap.size 4 (.bool false) ∧ (Below w.heap.size w W ∧ (Below w4.heap.size w4 W)))
    (fun _ _ _ => False)
    (OwnFrom.and (Own.from (boxed_own _ _ _) _) (OwnFrom.and (ownFrom_below (Nat.le_refl _) (by omega)) (ownFrom_below (Nat.le_refl _) (Nat.le_refl _))))
    (fun _ _ _ _ _ hs _ _ => hs)
    ⟨b4, hB4', Below.refl _ _⟩
    ?a1 ?assign ?body ?done ?stop
  case assign =>
    intro l x W K hK
    gi_wp2
    exact hK
  case body =>
    rintro l2 pre x W _ hpl
    simp at hpl
  case done =>
    rintro D ys W hD rfl ⟨hb, hB, hB5⟩ hK
    have hc := hb.cell
    have hf := hb.frozen
    have ha5 := (hB5.block _ (by omega)).trans ha4
    gi_wp2
    refine wpIn_wide.2 ?_
    have k0 : W.cell? ⟨w2.heap.size, 0, none⟩ = some (.int .i64 0) := blk_cell ha5 0
    have k1 : W.cell? ⟨w2.heap.size, 1, none⟩ = some (.int .i64 0) := blk_cell ha5 1
    have k2 : W.cell? ⟨w2.heap.size, 2, none⟩ = some (.int .i64 0) := blk_cell ha5 2
    have k3 : W.cell? ⟨w2.heap.size, 3, none⟩ = some (.int .i64 0) := blk_cell ha5 3
    have k4 : W.cell? ⟨w2.heap.size, 4, none⟩ = some (.int .i64 0) := blk_cell ha5 4
    have k5 : W.cell? ⟨w2.heap.size, 5, none⟩ = some (.int .i64 0) := blk_cell ha5 5
    have k6 : W.cell? ⟨w2.heap.size, 6, none⟩ = some (.int .i64 0) := blk_cell ha5 6
    have hq7 : ∀ w, (Op.equalIn 10000 36 (.agg #[.int .i64 ((0 : Nat) : Int), .int .i64 ((0 : Nat) : Int), .int .i64 ((0 : Nat) : Int), .int .i64 ((0 : Nat) : Int), .int .i64 ((0 : Nat) : Int), .int .i64 ((0 : Nat) : Int), .int .i64 ((0 : Nat) : Int)]) (.agg #[.int .i64 0, .int .i64 0, .int .i64 0, .int .i64 0, .int .i64 0, .int .i64 0, .int .i64 0])).run Try.prog w = .ok true w := fun w => by rw [eq7]; rfl
    have hq8 : ∀ w, (Op.equalIn 10000 36 (.agg #[.int .i64 0, .int .i64 0, .int .i64 0, .int .i64 0, .int .i64 0, .int .i64 0, .int .i64 0]) (.agg #[.int .i64 0, .int .i64 0, .int .i64 0, .int .i64 0, .int .i64 0, .int .i64 0, .int .i64 0])).run Try.prog w = .ok true w := fun w => by rw [eq7]; rfl
    have hne : w2.heap.size ≠ w.heap.size := by omega
    go_region_held3 (fun w' => w'.cell? ⟨w2.heap.size, 0, none⟩ = some (.int .i64 0) ∧ w'.cell? ⟨w2.heap.size, 1, none⟩ = some (.int .i64 0) ∧ w'.cell? ⟨w2.heap.size, 2, none⟩ = some (.int .i64 0) ∧ w'.cell? ⟨w2.heap.size, 3, none⟩ = some (.int .i64 0) ∧ w'.cell? ⟨w2.heap.size, 4, none⟩ = some (.int .i64 0) ∧ w'.cell? ⟨w2.heap.size, 5, none⟩ = some (.int .i64 0) ∧ w'.cell? ⟨w2.heap.size, 6, none⟩ = some (.int .i64 0)) (first | exact ⟨n0, n1, n2, n3, n4, n5, n6⟩ | go_keep) (first | (go_at_call 17; refine (nil_spread _).mono ?_; rintro e w6 ⟨rfl, hB6⟩; have m0 : w6.cell? ⟨w2.heap.size, 0, none⟩ = some (.int .i64 0) := pw_cell_below hB6 k0; have m1 : w6.cell? ⟨w2.heap.size, 1, none⟩ = some (.int .i64 0) := pw_cell_below hB6 k1; have m2 : w6.cell? ⟨w2.heap.size, 2, none⟩ = some (.int .i64 0) := pw_cell_below hB6 k2; have m3 : w6.cell? ⟨w2.heap.size, 3, none⟩ = some (.int .i64 0) := pw_cell_below hB6 k3; have m4 : w6.cell? ⟨w2.heap.size, 4, none⟩ = some (.int .i64 0) := pw_cell_below hB6 k4; have m5 : w6.cell? ⟨w2.heap.size, 5, none⟩ = some (.int .i64 0) := pw_cell_below hB6 k5; have m6 : w6.cell? ⟨w2.heap.size, 6, none⟩ = some (.int .i64 0) := pw_cell_below hB6 k6; have n0 : (w6.setCell ⟨w.heap.size, 0, none⟩ (.bool true)).cell? ⟨w2.heap.size, 0, none⟩ = some (.int .i64 0) := (World.cell?_setCell_other _ _ _ _ (fun e => hne (by injection e with e; exact e.symm))).trans m0; have n1 : (w6.setCell ⟨w.heap.size, 0, none⟩ (.bool true)).cell? ⟨w2.heap.size, 1, none⟩ = some (.int .i64 0) := (World.cell?_setCell_other _ _ _ _ (fun e => hne (by injection e with e; exact e.symm))).trans m1; have n2 : (w6.setCell ⟨w.heap.size, 0, none⟩ (.bool true)).cell? ⟨w2.heap.size, 2, none⟩ = some (.int .i64 0) := (World.cell?_setCell_other _ _ _ _ (fun e => hne (by injection e with e; exact e.symm))).trans m2; have n3 : (w6.setCell ⟨w.heap.size, 0, none⟩ (.bool true)).cell? ⟨w2.heap.size, 3, none⟩ = some (.int .i64 0) := (World.cell?_setCell_other _ _ _ _ (fun e => hne (by injection e with e; exact e.symm))).trans m3; have n4 : (w6.setCell ⟨w.heap.size, 0, none⟩ (.bool true)).cell? ⟨w2.heap.size, 4, none⟩ = some (.int .i64 0) := (World.cell?_setCell_other _ _ _ _ (fun e => hne (by injection e with e; exact e.symm))).trans m4; have n5 : (w6.setCell ⟨w.heap.size, 0, none⟩ (.bool true)).cell? ⟨w2.heap.size, 5, none⟩ = some (.int .i64 0) := (World.cell?_setCell_other _ _ _ _ (fun e => hne (by injection e with e; exact e.symm))).trans m5; have n6 : (w6.setCell ⟨w.heap.size, 0, none⟩ (.bool true)).cell? ⟨w2.heap.size, 6, none⟩ = some (.int .i64 0) := (World.cell?_setCell_other _ _ _ _ (fun e => hne (by injection e with e; exact e.symm))).trans m6; have f6 : w6.frozen? ⟨w.heap.size, 0, none⟩ = false := (by unfold World.frozen? at hf ⊢; rw [hB6.block w.heap.size (by show w.heap.size < W.heap.size; exact hb.lt)]; exact hf); have c6 : w6.cell? ⟨w.heap.size, 0, none⟩ = some (.bool false) := pw_cell_below hB6 hc; unfold sprV))
    all_goals
      have hK6 : w6.heap[D]? = some (.deferred (some [])) := (hB6.block D (by have := (Array.getElem?_eq_some_iff.1 hK).1; exact this)).trans hK
      have hK' := (KeepsOthers.setCell w6 ⟨w.heap.size, 0, none⟩ (.bool true)).same D _ hK6 rfl
      gi_wp2
      refine ⟨by simp, .inl ⟨_, _, rfl, run_takeDeferred hK', ?_⟩⟩
      have hc5 := cell_kept (World.cell?_setCell_same' w6 ⟨w.heap.size, 0, none⟩ (.bool true) (by rw [c6]; rfl)) (grownBy_putObj' _ D (.deferred none)) (fun r e => by cases e; exact ⟨_, hK', rfl⟩)
      have hB7 : Below w.heap.size w w6 := hB.trans ((below_drew (Below.refl _ W)).trans (hB6.mono hB.size))
      refine ⟨.bool true, ?_, rfl, (hB7.setCell (p := ⟨w.heap.size, 0, none⟩) (Nat.le_refl _) _).trans (belowK_b (w := w) (Nat.le_refl _) _ D _ _ (by have := hB4'.size; omega) hK' rfl rfl)⟩
      simp [results, Try.f9, go_sem, hc5]
  case stop =>
    rintro D c pre W _ _ h _
    exact h.elim
theorem nil_row (w : World) : Calls Try.prog 9 #[] w fun e w' => e = .returned (.bool true) ∧ Below w.heap.size w w' := callsIn_wide.1 (nil_main w)
end Go.Proofs.Ytaefbibkkkglnaa.Wh
