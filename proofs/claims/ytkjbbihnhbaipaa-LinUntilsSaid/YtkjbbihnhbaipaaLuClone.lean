/- slices.Clone at lines and levels. No condition. -/
import Derived.Test.YtkjbbihnhbaipaaLuTwin
import Derived.Deep.DeepCutAuto
namespace Go.Proofs.Ytkjbbihnhbaipaa.Lu
open Go.RowKit Go.Proofs.YtkjbbihnhbaipaaW.PrintWords Go.Proofs.YtkjbbihnhbaipaaW.PrintLast Go.Proofs.YtkjbbihnhbaipaaW.PrintMore Go.Proofs.Ytkjbbihnhbaipaa.Mk Go.Proofs.Ytkjbbihnhbaipaa.PLinUntils
set_option linter.unusedVariables false
set_option linter.unusedSimpArgs false

set_option maxRecDepth 100000 in
set_option maxHeartbeats 4000000 in
theorem clone_line (A : Option Addr) (c : Nat) (l : List S40) (w : World) (hr : Kd.C k40 w A l.length l) (hc : l.length ≤ c) (hg : l.length * 24 ≤ 140737488351232) :
    Calls Try.prog 20 #[.slice A l.length c] w fun e w' => ∃ v, e = .returned v ∧ k40.R 40 w' w.heap.size (fun b => w.heap.size ≤ b) v l ∧ Below w.heap.size w w' := by
  have HR := Aside0.mk hr
  have HC := Aside0.mk hc
  clear hr hc
  cases A with
  | none =>
    obtain rfl : l = [] := by
      obtain ⟨_, _, h⟩ := HR.out
      cases l with
      | nil => rfl
      | cons y ys => obtain ⟨ad, e, _⟩ := h (by simp); cases e
    have hq : ∀ w, (binOp .eql 28 (.slice none 0 c) (.slice none 0 0)).run Try.prog w = .ok (.bool true) w := by intro w; kernel_rfl
    go_enter Try.func20, Try.ntmps20
    go_wp2_with fail
    go_ret
    exact ⟨_, rfl, Kd.R_nil _ _ _ _ _, Below.refl _ _⟩
  | some ad =>
    have hq : ∀ w, (binOp .eql 28 (.slice (some ad) l.length c) (.slice none 0 0)).run Try.prog w = .ok (.bool false) w := by intro w; kernel_rfl
    go_enter Try.func20, Try.ntmps20
    have R0 := Aside0.mk (show k40.R 40 (w.alloc (.cells #[] 40)) w.heap.size (fun b => w.heap.size ≤ b) (.slice (some ⟨w.heap.size, 0, none⟩) 0 0) [] from
      ⟨fun k hk => by simp only [Value.ownBlock, Option.some.injEq] at hk; omega, [], World.ownsRow_made w #[] 0 (Nat.le_refl _) (Nat.zero_le _) rfl, Reps.none _ _⟩)
    go_wp2_with (first | ((with_reducible refine gate_builtin (b := .append) (xs := #[.tmp 5, .tmp 6]) rfl ?_); at_builtin; refine Kd.R_append_rows k40 (Rr := k40.K (w.alloc (.cells #[] 40))) (w0 := w) w.heap.size rfl (.tmp 5) (.tmp 6) 28 40 (.agg #[.string ⟨#[]⟩, .int .i64 0]) 24 rfl Try.underlying28 infoLine rfl (by decide) (by omega) (.slice (some ⟨w.heap.size, 0, none⟩) 0 0) ([]) (l) ((some ad)) ((l).length) (c) (fun b => w.heap.size ≤ b) (fun _ => False) ?aV ?aX ?aO ?aR ?aK (fun _ hk => hk.elim) (fun k hk => by rw [World.size_alloc] at hk; omega) ?aB ?aS ?aL ?_; (case aV => rfl); (case aX => rfl); (case aO => exact R0.out); (case aR => exact Kd.C_below HR.out (below_alloc (Below.refl _ _) _)); (case aK => exact fun x cs h => line_M x cs h); (case aB => exact below_alloc (Below.refl _ _) _); (case aS => exact (by rw [World.size_alloc]; omega)); (case aL => (first | omega | (simp; omega))); intro v5 w5 ho hb hgr hat; have R5 := Aside0.mk ho; have B5 := Aside0.mk hb; clear ho hb hgr hat))
    go_ret
    exact ⟨_, rfl, R5.out, B5.out⟩

set_option maxRecDepth 100000 in
set_option maxHeartbeats 4000000 in
theorem clone_level (A : Option Addr) (c : Nat) (l : List S42) (w : World) (hr : Kd.C k42 w A l.length l) (hc : l.length ≤ c) (hg : l.length * 32 ≤ 140737488351232) :
    Calls Try.prog 21 #[.slice A l.length c] w fun e w' => ∃ v, e = .returned v ∧ k42.R 42 w' w.heap.size (fun b => w.heap.size ≤ b) v l ∧ Below w.heap.size w w' := by
  have HR := Aside0.mk hr
  have HC := Aside0.mk hc
  clear hr hc
  cases A with
  | none =>
    obtain rfl : l = [] := by
      obtain ⟨_, _, h⟩ := HR.out
      cases l with
      | nil => rfl
      | cons y ys => obtain ⟨ad, e, _⟩ := h (by simp); cases e
    have hq : ∀ w, (binOp .eql 31 (.slice none 0 c) (.slice none 0 0)).run Try.prog w = .ok (.bool true) w := by intro w; kernel_rfl
    go_enter Try.func21, Try.ntmps21
    go_wp2_with fail
    go_ret
    exact ⟨_, rfl, Kd.R_nil _ _ _ _ _, Below.refl _ _⟩
  | some ad =>
    have hq : ∀ w, (binOp .eql 31 (.slice (some ad) l.length c) (.slice none 0 0)).run Try.prog w = .ok (.bool false) w := by intro w; kernel_rfl
    go_enter Try.func21, Try.ntmps21
    have R0 := Aside0.mk (show k42.R 42 (w.alloc (.cells #[] 42)) w.heap.size (fun b => w.heap.size ≤ b) (.slice (some ⟨w.heap.size, 0, none⟩) 0 0) [] from
      ⟨fun k hk => by simp only [Value.ownBlock, Option.some.injEq] at hk; omega, [], World.ownsRow_made w #[] 0 (Nat.le_refl _) (Nat.zero_le _) rfl, Reps.none _ _⟩)
    go_wp2_with (first | ((with_reducible refine gate_builtin (b := .append) (xs := #[.tmp 5, .tmp 6]) rfl ?_); at_builtin; refine Kd.R_append_rows k42 (Rr := k42.K (w.alloc (.cells #[] 42))) (w0 := w) w.heap.size rfl (.tmp 5) (.tmp 6) 31 42 (.agg #[.string ⟨#[]⟩, .int .i64 0, .int .i64 0]) 32 rfl Try.underlying31 infoLevel rfl (by decide) (by omega) (.slice (some ⟨w.heap.size, 0, none⟩) 0 0) ([]) (l) ((some ad)) ((l).length) (c) (fun b => w.heap.size ≤ b) (fun _ => False) ?aV ?aX ?aO ?aR ?aK (fun _ hk => hk.elim) (fun k hk => by rw [World.size_alloc] at hk; omega) ?aB ?aS ?aL ?_; (case aV => rfl); (case aX => rfl); (case aO => exact R0.out); (case aR => exact Kd.C_below HR.out (below_alloc (Below.refl _ _) _)); (case aK => exact fun x cs h => level_M x cs h); (case aB => exact below_alloc (Below.refl _ _) _); (case aS => exact (by rw [World.size_alloc]; omega)); (case aL => (first | omega | (simp; omega))); intro v5 w5 ho hb hgr hat; have R5 := Aside0.mk ho; have B5 := Aside0.mk hb; clear ho hb hgr hat))
    go_ret
    exact ⟨_, rfl, R5.out, B5.out⟩
end Go.Proofs.Ytkjbbihnhbaipaa.Lu
