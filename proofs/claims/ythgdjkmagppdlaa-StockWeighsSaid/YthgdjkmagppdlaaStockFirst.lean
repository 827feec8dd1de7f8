/- First, both: what a remembered request was answered first. No condition. -/
import Derived.Test.YthgdjkmagppdlaaQStockWeighsx4
import Derived.IntWalk
import Derived.Outline
import Derived.RegionTactic
import Derived.ChangeAlike
import Derived.BigQuiet
namespace Go.Proofs.Ythgdjkmagppdlaa.Sw
set_option linter.unusedVariables false
set_option linter.unusedSimpArgs false
open Go.RowKit Go.Proofs.Ythgdjkmagppdlaa.QStockWeighs Go.Proofs.YthgdjkmagppdlaaW.PrintWords Go.Proofs.YthgdjkmagppdlaaW.PrintLast

def firstN (kind at_ ttl : Int) : Int := if kind = 3 ∨ kind = 6 then wrap64 (at_ + ttl) else if kind = 8 then at_ else 0

set_option maxRecDepth 100000 in
set_option maxHeartbeats 4000000 in
theorem first_calls (s h : ByteArray) (kind ttl now at_ : Int) (A : Option Addr) (n c : Nat) (w : World) :
    Calls Try.prog 9 #[.agg #[.string s, .int .i64 kind, .slice A n c, .string h, .int .i64 ttl, .int .i64 now, .int .i64 at_]] w fun e w' => e = .returned (.agg #[.string s, .int .i64 0, .int .i64 0, .slice none 0 0, .int .i64 (firstN kind at_ ttl)]) ∧ Below w.heap.size w w' := by
  by_cases h3 : kind = 3
  · subst h3
    have b3 : ((3 : Int) == 3) = true := rfl
    go_enter Try.func9, Try.ntmps9
    go_wp2
    refine bodyPost_ret (results_cell_row rfl _ _ (w.heap.size + 1) 36 #[.string s, .int .i64 0, .int .i64 0, .slice none 0 0, .int .i64 (wrap64 (at_ + ttl))] (0, 0) _ rfl (by show (((w.heap.push _).push _).push _)[w.heap.size + 1]? = _; simp [Array.getElem?_push, Array.getElem_push]) Try.underlying36 rfl (by kernel_rfl)) rfl ?_
    refine ⟨rfl, ?_⟩
    repeat (first | exact Below.refl _ _ | apply below_alloc | (refine below_set ?_ (by simp [World.alloc]; try omega)))
  by_cases h6 : kind = 6
  · subst h6
    go_enter Try.func9, Try.ntmps9
    go_wp2
    refine bodyPost_ret (results_cell_row rfl _ _ (w.heap.size + 1) 36 #[.string s, .int .i64 0, .int .i64 0, .slice none 0 0, .int .i64 (wrap64 (at_ + ttl))] (0, 0) _ rfl (by show (((w.heap.push _).push _).push _)[w.heap.size + 1]? = _; simp [Array.getElem?_push, Array.getElem_push]) Try.underlying36 rfl (by kernel_rfl)) rfl ?_
    refine ⟨rfl, ?_⟩
    repeat (first | exact Below.refl _ _ | apply below_alloc | (refine below_set ?_ (by simp [World.alloc]; try omega)))
  have n3 : (kind == 3) = false := beq_eq_false_iff_ne.mpr h3
  have n6 : (kind == 6) = false := beq_eq_false_iff_ne.mpr h6
  have e : firstN kind at_ ttl = if kind = 8 then at_ else 0 := if_neg (by omega)
  rw [e]
  by_cases h8 : kind = 8
  · subst h8
    rw [if_pos rfl]
    go_enter Try.func9, Try.ntmps9
    go_wp2
    refine bodyPost_ret (results_cell_row rfl _ _ (w.heap.size + 1) 36 #[.string s, .int .i64 0, .int .i64 0, .slice none 0 0, .int .i64 (at_)] (0, 0) _ rfl (by show (((w.heap.push _).push _).push _)[w.heap.size + 1]? = _; simp [Array.getElem?_push, Array.getElem_push]) Try.underlying36 rfl (by kernel_rfl)) rfl ?_
    refine ⟨rfl, ?_⟩
    repeat (first | exact Below.refl _ _ | apply below_alloc | (refine below_set ?_ (by simp [World.alloc]; try omega)))
  · have n8 : (kind == 8) = false := beq_eq_false_iff_ne.mpr h8
    rw [if_neg h8]
    go_enter Try.func9, Try.ntmps9
    go_wp2
    refine bodyPost_ret (results_cell_row rfl _ _ (w.heap.size + 1) 36 #[.string s, .int .i64 0, .int .i64 0, .slice none 0 0, .int .i64 (0)] (0, 0) _ rfl (by show (((w.heap.push _).push _).push _)[w.heap.size + 1]? = _; simp [Array.getElem?_push, Array.getElem_push]) Try.underlying36 rfl (by kernel_rfl)) rfl ?_
    refine ⟨rfl, ?_⟩
    repeat (first | exact Below.refl _ _ | apply below_alloc | (refine below_set ?_ (by simp [World.alloc]; try omega)))
set_option maxRecDepth 100000 in
set_option maxHeartbeats 4000000 in
theorem rfirst_calls (s h : ByteArray) (kind ttl now at_ : Int) (A : Option Addr) (n c : Nat) (w : World) :
    Calls Try.prog 10 #[.agg #[.string s, .int .i64 kind, .slice A n c, .string h, .int .i64 ttl, .int .i64 now, .int .i64 at_]] w fun e w' => e = .returned (.agg #[.string s, .int .i64 0, .int .i64 0, .slice none 0 0, .int .i64 (firstN kind at_ ttl)]) ∧ Below w.heap.size w w' := by
  by_cases h3 : kind = 3
  · subst h3
    have b3 : ((3 : Int) == 3) = true := rfl
    go_enter Try.func10, Try.ntmps10
    go_wp2
    refine bodyPost_ret (results_cell_row rfl _ _ (w.heap.size + 1) 36 #[.string s, .int .i64 0, .int .i64 0, .slice none 0 0, .int .i64 (wrap64 (at_ + ttl))] (0, 0) _ rfl (by show (((w.heap.push _).push _).push _)[w.heap.size + 1]? = _; simp [Array.getElem?_push, Array.getElem_push]) Try.underlying36 rfl (by kernel_rfl)) rfl ?_
    refine ⟨rfl, ?_⟩
    repeat (first | exact Below.refl _ _ | apply below_alloc | (refine below_set ?_ (by simp [World.alloc]; try omega)))
  by_cases h6 : kind = 6
  · subst h6
    go_enter Try.func10, Try.ntmps10
    go_wp2
    refine bodyPost_ret (results_cell_row rfl _ _ (w.heap.size + 1) 36 #[.string s, .int .i64 0, .int .i64 0, .slice none 0 0, .int .i64 (wrap64 (at_ + ttl))] (0, 0) _ rfl (by show (((w.heap.push _).push _).push _)[w.heap.size + 1]? = _; simp [Array.getElem?_push, Array.getElem_push]) Try.underlying36 rfl (by kernel_rfl)) rfl ?_
    refine ⟨rfl, ?_⟩
    repeat (first | exact Below.refl _ _ | apply below_alloc | (refine below_set ?_ (by simp [World.alloc]; try omega)))
  have n3 : (kind == 3) = false := beq_eq_false_iff_ne.mpr h3
  have n6 : (kind == 6) = false := beq_eq_false_iff_ne.mpr h6
  have e : firstN kind at_ ttl = if kind = 8 then at_ else 0 := if_neg (by omega)
  rw [e]
  by_cases h8 : kind = 8
  · subst h8
    rw [if_pos rfl]
    go_enter Try.func10, Try.ntmps10
    go_wp2
    refine bodyPost_ret (results_cell_row rfl _ _ (w.heap.size + 1) 36 #[.string s, .int .i64 0, .int .i64 0, .slice none 0 0, .int .i64 (at_)] (0, 0) _ rfl (by show (((w.heap.push _).push _).push _)[w.heap.size + 1]? = _; simp [Array.getElem?_push, Array.getElem_push]) Try.underlying36 rfl (by kernel_rfl)) rfl ?_
    refine ⟨rfl, ?_⟩
    repeat (first | exact Below.refl _ _ | apply below_alloc | (refine below_set ?_ (by simp [World.alloc]; try omega)))
  · have n8 : (kind == 8) = false := beq_eq_false_iff_ne.mpr h8
    rw [if_neg h8]
    go_enter Try.func10, Try.ntmps10
    go_wp2
    refine bodyPost_ret (results_cell_row rfl _ _ (w.heap.size + 1) 36 #[.string s, .int .i64 0, .int .i64 0, .slice none 0 0, .int .i64 (0)] (0, 0) _ rfl (by show (((w.heap.push _).push _).push _)[w.heap.size + 1]? = _; simp [Array.getElem?_push, Array.getElem_push]) Try.underlying36 rfl (by kernel_rfl)) rfl ?_
    refine ⟨rfl, ?_⟩
    repeat (first | exact Below.refl _ _ | apply below_alloc | (refine below_set ?_ (by simp [World.alloc]; try omega)))
end Go.Proofs.Ythgdjkmagppdlaa.Sw
