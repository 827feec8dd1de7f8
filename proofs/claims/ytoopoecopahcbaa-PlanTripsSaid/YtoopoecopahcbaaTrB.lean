/- plan.least over legs. No condition. -/
import Derived.Test.YtoopoecopahcbaaTrA
namespace Go.Proofs.Ytoopoecopahcbaa.Tr
open Go Go.RowKit Go.Proofs.YtoopoecopahcbaaW.PrintWords Go.Proofs.YtoopoecopahcbaaW.PrintLast Go.Proofs.YtoopoecopahcbaaW.PrintMore
set_option linter.unusedVariables false
set_option linter.unusedSimpArgs false

abbrev kLeg : Kd Leg := Kd.pair (Kd.int .i64) (Kd.int .i64)
theorem kLeg_open {W : World} {x : Leg} {cs : List Value} (h : kLeg.K W x cs) : cs = [.int .i64 x.1, .int .i64 x.2] := by
  obtain ⟨c1, c2, rfl, h1, h2⟩ := h
  have e1 : c1 = [.int .i64 x.1] := h1
  have e2 : c2 = [.int .i64 x.2] := h2
  rw [e1, e2]
  rfl
theorem at_leg {w : World} {A : Option Addr} {xs : List Leg} (h : Kd.C kLeg w A xs.length xs) (i : Nat) (hi : i < xs.length) : ∃ ad, A = some ad ∧ w.cell? (ad.add (i * 2)) = some (.int .i64 xs[i].1) ∧ w.cell? ⟨(ad.add (i * 2)).block, (ad.add (i * 2)).off + 1, none⟩ = some (.int .i64 xs[i].2) := by
  obtain ⟨ad, c, e, hl, hK, hc⟩ := Kd.C_get h ((0, 0) : Leg) (i : Int) (by omega) (by omega)
  rw [Int.toNat_natCast] at *
  rw [show xs.getD i (0, 0) = xs[i] by rw [List.getD_eq_getElem?_getD, List.getElem?_eq_getElem hi]; rfl] at hK
  obtain rfl := kLeg_open hK
  have h0 : w.cell? (ad.add (i * 2 + 0)) = _ := hc 0 _ rfl
  have h1 : w.cell? (ad.add (i * 2 + 1)) = _ := hc 1 _ rfl
  exact ⟨ad, e, h0, by rw [← add_field _ _ 1 (by omega)]; exact h1⟩
def leastF : Leg → List Leg → Leg
  | b, [] => b
  | b, x :: r => leastF (if better x b = true then x else b) r
def leastL : List Leg → Leg
  | [] => (0, 0)
  | x :: r => leastF x r
theorem leastF_snoc (b : Leg) (l : List Leg) (x : Leg) : leastF b (l ++ [x]) = if better x (leastF b l) = true then x else leastF b l := by
  induction l generalizing b with
  | nil => rfl
  | cons y r ih => exact ih _
theorem leastL_first {l : List Leg} (h : 0 < l.length) : leastL (l.take 1) = l[0] := by
  cases l with
  | nil => cases h
  | cons x r => rfl
theorem leastL_succ {l : List Leg} {k : Nat} (h0 : 0 < k) (hk : k < l.length) : leastL (l.take (k + 1)) = if better l[k] (leastL (l.take k)) = true then l[k] else leastL (l.take k) := by
  rw [List.take_succ_eq_append_getElem hk]
  have hne : l.take k ≠ [] := by
    intro h
    have := congrArg List.length h
    rw [List.length_take, List.length_nil] at this
    omega
  generalize l.take k = m at *
  cases m with
  | nil => exact absurd rfl hne
  | cons x r => exact leastF_snoc x r l[k]
def LeastPost (l : List Leg) (w : World) (e : Ending) (w' : World) : Prop :=
  e = .returned (.tuple #[.agg #[.int .i64 (leastL l).1, .int .i64 (leastL l).2], .bool (decide (0 < l.length))]) ∧ Below w.heap.size w w'
theorem blk_under {W w1 : World} {g : Nat} {o : Obj} (hb : Below W.heap.size W w1) (h : W.heap[g]? = some o) : w1.heap[g]? = some o := (hb.block g (blk_lt h)).trans h
abbrev ordV : Value := .func (.func 52) #[] #[]
set_option maxRecDepth 100000 in
set_option maxHeartbeats 4000000 in
theorem least_calls (A : Option Addr) (c : Nat) (l : List Leg) (w : World) (ha : Kd.C kLeg w A l.length l) (hc : l.length ≤ c) (hl : l.length < 4611686018427387904) :
    Calls Try.prog 51 #[.slice A l.length c, ordV] w (LeastPost l w) := by
  have HA := Aside0.mk ha
  clear ha
  go_enter Try.func51, Try.ntmps51
  go_wp2_with fail
  go_loopw [7, 8, 11] (fun v7 v8 v11 wr => ∃ (k : Nat) (b : Leg), k ≤ l.length ∧ v11 = .int .i64 k ∧ Aside0 (b = leastL (l.take k)) ∧ Aside0 (wr.heap[w.heap.size]? = some (.cells #[.int .i64 0, .int .i64 0] 106 (0, 0))) ∧ Aside0 (wr.heap[w.heap.size + 1]? = some (.cells #[.int .i64 b.1, .int .i64 b.2] 106 (0, 0))) ∧ Aside0 (Below w.heap.size w wr)) (fun _ _ v11 _ => l.length - (intOf v11).toNat)
  case atStart =>
    refine ⟨0, (0, 0), Nat.zero_le _, rfl, ⟨rfl⟩, ⟨blk_alloc (heap_alloc_new _ _) _⟩, ⟨?_⟩, ⟨below_alloc (below_alloc (Below.refl _ _) _) _⟩⟩
    have := heap_alloc_new (w.alloc (.cells #[.int .i64 0, .int .i64 0] 106 (0, 0))) (.cells #[.int .i64 0, .int .i64 0] 106 (0, 0))
    rw [World.size_alloc] at this
    exact this
  case round =>
    obtain ⟨k, b, hk, rfl, HB, H4, H6, BB⟩ := hrel
    have hlt6 : w.heap.size + 1 < wr.heap.size := blk_lt H6.out
    by_cases hlt : k < l.length
    · obtain ⟨ad, eA, c0, c1⟩ := at_leg (Kd.C_below HA.out BB.out) k hlt
      have HK := Aside0.mk (fun h0 : 0 < k => leastL_succ h0 hlt)
      have HF := Aside0.mk (show k = 0 → leastL (l.take (k + 1)) = l[k] from fun h => by subst h; exact leastL_first hlt)
      have HO := Aside0.mk (fun w => order_calls l[k] b w)
      have HN := Aside0.mk (cmpL_neg l[k] b)
      generalize hx : l[k] = x at *
      clear hx
      obtain ⟨x1, x2⟩ := x
      obtain ⟨b1, b2⟩ := b
      simp only at c0 c1 HO H6
      subst eA
      have i0 : (0 : Int) ≤ (k : Int) := by omega
      have i1 : (k : Int) < (l.length : Int) := by omega
      have c6 : wr.cell? ⟨w.heap.size + 1, 0, none⟩ = some (.int .i64 b1) := (blk_cell H6.out 0).trans rfl
      have c7 : wr.cell? ⟨w.heap.size + 1, 1, none⟩ = some (.int .i64 b2) := (blk_cell H6.out 1).trans rfl
      have f6 : wr.frozen? ⟨w.heap.size + 1, 0, none⟩ = false := blk_frozen H6.out 0
      have f7 : wr.frozen? ⟨w.heap.size + 1, 1, none⟩ = false := blk_frozen H6.out 1
      have ne6 : w.heap.size + 1 ≠ wr.heap.size := by omega
      clear hlt
      have B1 := Aside0.mk (below_alloc BB.out (.cells #[.int .i64 x1, .int .i64 x2] 106))
      have H4a := Aside0.mk (blk_alloc H4.out (.cells #[.int .i64 x1, .int .i64 x2] 106))
      have H6a := Aside0.mk (blk_alloc H6.out (.cells #[.int .i64 x1, .int .i64 x2] 106))
      have hz : (wr.alloc (.cells #[.int .i64 x1, .int .i64 x2] 106)).heap.size = wr.heap.size + 1 := World.size_alloc _ _
      by_cases h0 : k = 0
      · have H0 := Aside0.mk (HF.out h0)
        have d0 : ((k : Int) == 0) = true := by rw [h0]; rfl
        clear h0 HF HK HO HN
        go_wp2_with fail
        go_roundw
        case rel =>
          refine ⟨k + 1, (x1, x2), by omega, by go_num, ⟨H0.out.symm⟩, ⟨blk_alloc (blk_far (blk_far H4.out (by simp) _) (by simp) _) _⟩, ⟨blk_alloc ?_ _⟩, ⟨below_alloc ((BB.out.setCell (by simp) _).setCell (by simp) _) _⟩⟩
          exact blk_put (blk_put H6.out 0 (.int .i64 x1) rfl) 1 (.int .i64 x2) rfl
        case measure => simp [intOf]; omega
      · have hk0 := Aside0.mk (HK.out (by omega))
        have d0 : ((k : Int) == 0) = false := by
          refine beq_eq_false_iff_ne.2 ?_
          omega
        rw [← HB.out] at hk0
        clear h0 HF HK
        cases hb : better (x1, x2) (b1, b2)
        · rw [hb] at HN hk0
          have dn : decide (cmpL (x1, x2) (b1, b2) < 0) = false := HN.out
          go_wp2_with (first | (go_at_call 52; refine (HO.out _).mono ?_; rintro e w5 ⟨rfl, hb5⟩; have B5 := Aside0.mk hb5; clear hb5))
          go_roundw
          case rel =>
            refine ⟨k + 1, (b1, b2), by omega, by go_num, ⟨?_⟩, ⟨blk_under B5.out H4a.out⟩, ⟨blk_under B5.out H6a.out⟩, ⟨below_then B1.out B1.out.size B5.out⟩⟩
            rw [hk0.out]
            rfl
          case measure => simp [intOf]; omega
        · rw [hb] at HN hk0
          have dn : decide (cmpL (x1, x2) (b1, b2) < 0) = true := HN.out
          go_wp2_with (first | (go_at_call 52; refine (HO.out _).mono ?_; rintro e w5 ⟨rfl, hb5⟩; have B5 := Aside0.mk hb5; have H4b := Aside0.mk (blk_under B5.out H4a.out); have H6b := Aside0.mk (blk_under B5.out H6a.out); have H8b := Aside0.mk (blk_under B5.out (heap_alloc_new wr (.cells #[.int .i64 x1, .int .i64 x2] 106))); have z5 : wr.heap.size < w5.heap.size := (by have := B5.out.size; omega); have e0 : w5.cell? ⟨wr.heap.size, 0, none⟩ = some (.int .i64 x1) := (blk_cell H8b.out 0).trans rfl; have e1 : w5.cell? ⟨wr.heap.size, 1, none⟩ = some (.int .i64 x2) := (blk_cell H8b.out 1).trans rfl; have e6 : w5.cell? ⟨w.heap.size + 1, 0, none⟩ = some (.int .i64 b1) := (blk_cell H6b.out 0).trans rfl; have e7 : w5.cell? ⟨w.heap.size + 1, 1, none⟩ = some (.int .i64 b2) := (blk_cell H6b.out 1).trans rfl; have g6 : w5.frozen? ⟨w.heap.size + 1, 0, none⟩ = false := blk_frozen H6b.out 0; have g7 : w5.frozen? ⟨w.heap.size + 1, 1, none⟩ = false := blk_frozen H6b.out 1; clear hb5 c6 c7 f6 f7))
          go_roundw
          case rel =>
            refine ⟨k + 1, (x1, x2), by omega, by go_num, ⟨?_⟩, ⟨blk_far (blk_far H4b.out (by simp) _) (by simp) _⟩, ⟨?_⟩, ⟨((below_then B1.out B1.out.size B5.out).setCell (by simp) _).setCell (by simp) _⟩⟩
            · rw [hk0.out]
              rfl
            · exact blk_put (blk_put H6b.out 0 (.int .i64 x1) rfl) 1 (.int .i64 x2) rfl
          case measure => simp [intOf]; omega
    · obtain rfl : k = l.length := by omega
      have HL := Aside0.mk (show b = leastL l by rw [HB.out, List.take_of_length_le (Nat.le_refl _)])
      obtain ⟨b1, b2⟩ := b
      have c6 : wr.cell? ⟨w.heap.size + 1, 0, none⟩ = some (.int .i64 b1) := (blk_cell H6.out 0).trans rfl
      have c7 : wr.cell? ⟨w.heap.size + 1, 1, none⟩ = some (.int .i64 b2) := (blk_cell H6.out 1).trans rfl
      have c4 : wr.cell? ⟨w.heap.size, 0, none⟩ = some (.int .i64 0) := (blk_cell H4.out 0).trans rfl
      have c5 : wr.cell? ⟨w.heap.size, 1, none⟩ = some (.int .i64 0) := (blk_cell H4.out 1).trans rfl
      have f4 : wr.frozen? ⟨w.heap.size, 0, none⟩ = false := blk_frozen H4.out 0
      have f5 : wr.frozen? ⟨w.heap.size, 1, none⟩ = false := blk_frozen H4.out 1
      go_wp2_with fail
      have HW := Aside0.mk (blk_put (blk_put H4.out 0 (.int .i64 b1) rfl) 1 (.int .i64 b2) rfl)
      have e0 := (blk_cell HW.out 0).trans (show _ = some (.int .i64 b1) from rfl)
      have e1 := (blk_cell HW.out 1).trans (show _ = some (.int .i64 b2) from rfl)
      refine bodyPost_ret (v := .tuple #[.agg #[.int .i64 b1, .int .i64 b2], .bool (decide (0 < l.length))]) (by simp [results, Try.results51, go_sem, e0, e1]) rfl ⟨by rw [← HL.out], (BB.out.setCell (by simp) _).setCell (by simp) _⟩
end Go.Proofs.Ytoopoecopahcbaa.Tr
