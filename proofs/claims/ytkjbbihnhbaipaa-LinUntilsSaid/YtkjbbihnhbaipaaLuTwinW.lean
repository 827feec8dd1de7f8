/- A history in memory of its own with marks: twin: the walk. No condition. -/
import Derived.Test.YtkjbbihnhbaipaaLuTwin
import Derived.Deep.DeepCutAuto
namespace Go.Proofs.Ytkjbbihnhbaipaa.Lu
open Go.RowKit Go.Proofs.YtkjbbihnhbaipaaW.PrintWords Go.Proofs.YtkjbbihnhbaipaaW.PrintMore Go.Proofs.Ytkjbbihnhbaipaa.Mk Go.Proofs.Ytkjbbihnhbaipaa.PLinUntils
set_option linter.unusedVariables false
set_option linter.unusedSimpArgs false

theorem zOp_cells : (Value.agg #[.string ⟨#[]⟩, .int .i64 0, .slice none 0 0, .string ⟨#[]⟩, .int .i64 0, .int .i64 0, .string ⟨#[]⟩, .int .i64 0, .int .i64 0, .slice none 0 0, .int .i64 0, .int .i64 0, .int .i64 0, .bool false]).cells.size = 14 := rfl
theorem infoOpZ : (Try.prog.info? 35).map (fun i => (i.zero, i.size, i.bytes)) = some (some (.agg #[.string ⟨#[]⟩, .int .i64 0, .slice none 0 0, .string ⟨#[]⟩, .int .i64 0, .int .i64 0, .string ⟨#[]⟩, .int .i64 0, .int .i64 0, .slice none 0 0, .int .i64 0, .int .i64 0, .int .i64 0, .bool false]), 14, 168) := by kernel_rfl

/-- A twin: each list, and the history, with a mark behind it. -/
def Twin (A : Option Addr) (c : Nat) (l : List S35) (w : World) : Prop :=
  l.length + 1 ≤ c ∧ Kd.C kOpM w A l.length l ∧ ∃ ad, A = some ad ∧ w.cell? ⟨(ad.add (l.length * 14)).block, (ad.add (l.length * 14)).off + 11, none⟩ = some (.int .i64 (-7))

theorem twin_end {w : World} {base : Nat} {v : Value} {l : List S35} {inner ys : List Value} (h : w.ownsRow base 35 14 v (l.length + 1) (inner ++ ys)) (hr : Reps (kOpM.K w) 14 l inner) (hy : ys[11]? = some (.int .i64 (-7))) :
    ∃ A c, v = .slice A (l.length + 1) c ∧ Twin A c l w := by
  obtain ⟨A, c, rfl⟩ := own_slice h
  have hil : inner.length = l.length * 14 := hr.1
  have hcap : l.length + 1 ≤ c := by
    obtain ⟨A', c', e, h'⟩ := q_slice (q_of_own h)
    cases e
    exact h'
  obtain ⟨g, cap, e, _, _⟩ := h.form (by omega)
  cases e
  refine ⟨_, _, rfl, hcap, ?_, ⟨g, 0, none⟩, rfl, ?_⟩
  · have h2 := own_take h (m := l.length) (by omega)
    rw [← hil, List.take_left] at h2
    obtain ⟨A', c', e, hrow⟩ := own_reads_row h2 hr rfl
    cases e
    exact hrow
  · have h3 := h.cells (g := g) rfl (l.length * 14 + 11) (.int .i64 (-7)) (by rw [List.getElem?_append_right (by omega), show l.length * 14 + 11 - inner.length = 11 by omega]; exact hy)
    rw [add_plain] at h3 ⊢
    simpa using h3

set_option maxRecDepth 100000 in
set_option maxHeartbeats 4000000 in
theorem twin_calls (A : Option Addr) (c : Nat) (l : List S35) (w : World) (hr : Kd.C k35 w A l.length l) (hc : l.length ≤ c) (hg : ∀ y ∈ l, y.f0.f2.length * 24 ≤ 140737488351232 ∧ y.f1.f3.length * 32 ≤ 140737488351232) (hg2 : l.length * 168 ≤ 140737488351232) :
    Calls Try.prog 6 #[.slice A l.length c] w fun e w' => ∃ A' c', e = .returned (.slice A' l.length c') ∧ Twin A' c' l w' ∧ Below w.heap.size w w' := by
  have hl : l.length ≤ 140737488351232 := by omega
  have HR := Aside0.mk hr
  have HC := Aside0.mk hc
  have HG := Aside0.mk hg
  clear hr hc hg
  go_enter Try.func6, Try.ntmps6
  go_wp2_with fail
  go_loopw [3, 4] (fun v3 v4 wr => ∃ k : Nat, k ≤ l.length ∧ v4 = .int .i64 k ∧ Aside0 (kOpM.R 35 wr w.heap.size (fun b => w.heap.size ≤ b) v3 (l.take k)) ∧ Aside0 (Below w.heap.size w wr)) (fun _ v4 _ => l.length - (intOf v4).toNat)
  case atStart => exact ⟨0, Nat.zero_le _, rfl, ⟨Kd.R_nil _ _ _ _ _⟩, ⟨Below.refl _ _⟩⟩
  case round =>
    obtain ⟨k, hk, rfl, R3, B3⟩ := hrel
    by_cases hlt : k < l.length
    · obtain ⟨ad, A2, c2, A9, c9, eA, h0, h1, h2, h3, h4, h5, h6, h7, h8, h9, h10, h11, h12, h13, l2, g2, l9, g9⟩ := at_T35 (Kd.C_below HR.out B3.out) (k : Int) (by omega) (by omega)
      subst eA
      rw [Int.toNat_natCast] at *
      have hy : rd_T35 l (k : Int) = l.getD k z35 := rfl
      have hgy := HG.out (rd_T35 l (k : Int)) (by rw [hy, List.getD_eq_getElem?_getD, List.getElem?_eq_getElem hlt]; exact List.getElem_mem hlt)
      have HT := Aside0.mk (show l.take (k + 1) = l.take k ++ [rd_T35 l (k : Int)] by rw [hy, List.take_succ_eq_append_getElem hlt, List.getD_eq_getElem?_getD, List.getElem?_eq_getElem hlt]; rfl)
      generalize rd_T35 l (k : Int) = y at *
      clear hy
      obtain ⟨⟨y0, y1, y2, y3, y4, y5⟩, ⟨z0, z1, z2, z3, z4⟩, y6, y7, y8⟩ := y
      simp only at h0 h1 h2 h3 h4 h5 h6 h7 h8 h9 h10 h11 h12 h13 l2 g2 l9 g9 hgy
      obtain ⟨hb2, hb9⟩ := hgy
      have G2 := Aside0.mk g2
      have G9 := Aside0.mk g9
      clear g2 g9
      go_upto_region 7 with fail
      obtain ⟨W1, hW1⟩ : ∃ W1, W1 = wr.alloc (.cells #[.string y0, .int .i64 y1, .slice A2 y2.length c2, .string y3, .int .i64 y4, .int .i64 y5, .string z0, .int .i64 z1, .int .i64 z2, .slice A9 z3.length c9, .int .i64 z4, .int .i64 y6, .int .i64 y7, .bool y8] 35 (0, 0)) := ⟨_, rfl⟩
      rw [← hW1]
      have K1 := Aside0.mk (show W1.heap[wr.heap.size]? = some (.cells #[.string y0, .int .i64 y1, .slice A2 y2.length c2, .string y3, .int .i64 y4, .int .i64 y5, .string z0, .int .i64 z1, .int .i64 z2, .slice A9 z3.length c9, .int .i64 z4, .int .i64 y6, .int .i64 y7, .bool y8] 35 (0, 0)) by rw [hW1]; exact heap_alloc_new wr _)
      have BW1 := Aside0.mk (show Below wr.heap.size wr W1 by rw [hW1]; exact below_alloc (Below.refl _ _) _)
      have S1 := Aside0.mk (show wr.heap.size < W1.heap.size by rw [hW1, World.size_alloc]; omega)
      have d2 : W1.cell? ⟨wr.heap.size, 2, none⟩ = some (.slice A2 y2.length c2) := (blk_cell K1.out 2).trans rfl
      clear hW1 h0 h1 h2 h3 h4 h5 h6 h7 h8 h9 h10 h11 h12 h13
      go_upto_region 8 with (first | ((with_reducible refine gate_builtin (b := .append) (xs := #[.tmp 18, .tmp 21]) rfl ?_); at_builtin; refine Kd.R_append_rows k40 (Rr := k40.K W1) (w0 := W1) W1.heap.size rfl (.tmp 18) (.tmp 21) 28 40 (.agg #[.string ⟨#[]⟩, .int .i64 0]) 24 rfl Try.underlying28 infoLine rfl (by decide) (by omega) (.slice none 0 0) ([]) (y2) (A2) ((y2).length) (c2) (fun _ => True) (fun _ => False) ?aV ?aX ?aO ?aR ?aK (fun _ hk => hk.elim) (fun _ _ => trivial) ?aB ?aS ?aL ?_; (case aV => rfl); (case aX => rfl); (case aO => exact Kd.R_nil _ _ _ _ _); (case aR => exact Kd.C_below G2.out BW1.out); (case aK => exact fun x cs h => line_M x cs h); (case aB => exact Below.refl _ _); (case aS => exact Nat.le_refl _); (case aL => (first | omega | (simp; omega))); intro v5 w5 ho hb hgr hat; obtain ⟨A5, c5, rfl, hc5, hC5⟩ := Kd.R_reads ho; clear hC5; have R5 := Aside0.mk ho; have B5 := Aside0.mk hb; clear ho hb hgr hat))
      rw [List.nil_append] at hc5
      rw [List.nil_append] at R5
      go_upto_region 9 with (first | ((with_reducible refine gate_builtin (b := .append) (xs := #[.tmp 23, .tmp 25]) rfl ?_); at_builtin; refine Kd.R_append k40 (w0 := W1) W1.heap.size rfl (.tmp 23) (.tmp 25) 28 40 (.agg #[.string ⟨#[]⟩, .int .i64 0]) 24 rfl Try.underlying28 infoLine rfl (by decide) (by omega) (.slice A5 y2.length c5) (y2) ((⟨⟨#[109, 97, 114, 107]⟩, 0⟩ : S40)) ([.string ⟨#[109, 97, 114, 107]⟩, .int .i64 0]) (fun _ => True) (fun _ => False) ?aV ?aX ?aP (fun _ hk => hk.elim) (fun _ _ => trivial) ?aO ?aB ?aS ?aL ?_; (case aV => rfl); (case aX => rfl); (case aP => exact k40_mkM _ _ _ _); (case aO => exact R5.out); (case aB => exact B5.out); (case aS => exact B5.out.size); (case aL => (first | omega | (simp; omega))); intro v6 w6 ho hb hgr hat; obtain ⟨A6, c6, rfl, hc6, hC6⟩ := Kd.R_reads ho; clear hC6; have R6 := Aside0.mk ho; have B6 := Aside0.mk hb; clear ho hb hgr hat))
      have b6 : Below wr.heap.size wr w6 := below_then BW1.out BW1.out.size B6.out
      have k6 := (B6.out.block _ S1.out).trans K1.out
      have e2 : w6.cell? ⟨wr.heap.size, 2, none⟩ = some (.slice A2 y2.length c2) := (blk_cell k6 2).trans rfl
      have q2 := blk_frozen k6 2
      have K6 := Aside0.mk k6
      have BW6 := Aside0.mk b6
      rw [List.length_append] at hc6
      have hc6' : y2.length + 1 ≤ c6 := by simpa using hc6
      clear k6 b6 d2 hc5
      go_upto_region 11 with fail
      obtain ⟨W3, hW3⟩ : ∃ W3, W3 = w6.setCell ⟨wr.heap.size, 2, none⟩ (.slice A6 y2.length c6) := ⟨_, rfl⟩
      rw [← hW3]
      have K3 := Aside0.mk (show W3.heap[wr.heap.size]? = some (.cells #[.string y0, .int .i64 y1, .slice A6 y2.length c6, .string y3, .int .i64 y4, .int .i64 y5, .string z0, .int .i64 z1, .int .i64 z2, .slice A9 z3.length c9, .int .i64 z4, .int .i64 y6, .int .i64 y7, .bool y8] 35 (0, 0)) by rw [hW3, blk_set K6.out 2]; simp)
      have BW3 := Aside0.mk (show Below wr.heap.size wr W3 by rw [hW3]; exact BW6.out.setCell (Nat.le_refl _) _)
      have S3 := Aside0.mk (show wr.heap.size < W3.heap.size by rw [hW3, World.size_setCell]; exact Nat.lt_of_lt_of_le S1.out B6.out.size)
      have R63 := Aside0.mk (show k40.R 40 W3 W1.heap.size (fun _ => True) (.slice A6 (y2 ++ [(⟨⟨#[109, 97, 114, 107]⟩, 0⟩ : S40)]).length c6) (y2 ++ [(⟨⟨#[109, 97, 114, 107]⟩, 0⟩ : S40)]) by
        rw [hW3]
        exact Kd.R_mono (Kd.R_far (Kd.R_bound R6.out) (fun b hb e => by have h1 := hb.2.1; have h2 := S1.out; have h3 : b = wr.heap.size := e; omega) _) (fun _ _ => trivial))
      have d9 : W3.cell? ⟨wr.heap.size, 9, none⟩ = some (.slice A9 z3.length c9) := (blk_cell K3.out 9).trans rfl
      clear hW3 e2 q2 hc6
      go_upto_region 12 with (first | ((with_reducible refine gate_builtin (b := .append) (xs := #[.tmp 34, .tmp 37]) rfl ?_); at_builtin; refine Kd.R_append_rows k42 (Rr := k42.K W3) (w0 := W3) W3.heap.size rfl (.tmp 34) (.tmp 37) 31 42 (.agg #[.string ⟨#[]⟩, .int .i64 0, .int .i64 0]) 32 rfl Try.underlying31 infoLevel rfl (by decide) (by omega) (.slice none 0 0) ([]) (z3) (A9) ((z3).length) (c9) (fun _ => True) (fun _ => False) ?aV ?aX ?aO ?aR ?aK (fun _ hk => hk.elim) (fun _ _ => trivial) ?aB ?aS ?aL ?_; (case aV => rfl); (case aX => rfl); (case aO => exact Kd.R_nil _ _ _ _ _); (case aR => exact Kd.C_below G9.out BW3.out); (case aK => exact fun x cs h => level_M x cs h); (case aB => exact Below.refl _ _); (case aS => exact Nat.le_refl _); (case aL => (first | omega | (simp; omega))); intro v7 w7 ho hb hgr hat; obtain ⟨A7, c7, rfl, hc7, hC7⟩ := Kd.R_reads ho; clear hC7; have R7 := Aside0.mk ho; have B7 := Aside0.mk hb; clear ho hb hgr hat))
      rw [List.nil_append] at hc7
      rw [List.nil_append] at R7
      go_upto_region 13 with (first | ((with_reducible refine gate_builtin (b := .append) (xs := #[.tmp 39, .tmp 41]) rfl ?_); at_builtin; refine Kd.R_append k42 (w0 := W3) W3.heap.size rfl (.tmp 39) (.tmp 41) 31 42 (.agg #[.string ⟨#[]⟩, .int .i64 0, .int .i64 0]) 32 rfl Try.underlying31 infoLevel rfl (by decide) (by omega) (.slice A7 z3.length c7) (z3) ((⟨⟨#[109, 97, 114, 107]⟩, 0, 0⟩ : S42)) ([.string ⟨#[109, 97, 114, 107]⟩, .int .i64 0, .int .i64 0]) (fun _ => True) (fun _ => False) ?aV ?aX ?aP (fun _ hk => hk.elim) (fun _ _ => trivial) ?aO ?aB ?aS ?aL ?_; (case aV => rfl); (case aX => rfl); (case aP => exact k42_mkM _ _ _ _); (case aO => exact R7.out); (case aB => exact B7.out); (case aS => exact B7.out.size); (case aL => (first | omega | (simp; omega))); intro v8 w8 ho hb hgr hat; obtain ⟨A8, c8, rfl, hc8, hC8⟩ := Kd.R_reads ho; clear hC8; have R8 := Aside0.mk ho; have B8 := Aside0.mk hb; clear ho hb hgr hat))
      have b8 : Below wr.heap.size wr w8 := below_then BW3.out BW3.out.size B8.out
      have k8 := (B8.out.block _ S3.out).trans K3.out
      have e9 : w8.cell? ⟨wr.heap.size, 9, none⟩ = some (.slice A9 z3.length c9) := (blk_cell k8 9).trans rfl
      have q9 := blk_frozen k8 9
      have K8 := Aside0.mk k8
      have BW8 := Aside0.mk b8
      rw [List.length_append] at hc8
      have hc8' : z3.length + 1 ≤ c8 := by simpa using hc8
      clear k8 b8 d9 hc7
      go_upto_region 14 with fail
      obtain ⟨W4, hW4⟩ : ∃ W4, W4 = w8.setCell ⟨wr.heap.size, 9, none⟩ (.slice A8 z3.length c8) := ⟨_, rfl⟩
      rw [← hW4]
      have K4 := Aside0.mk (show W4.heap[wr.heap.size]? = some (.cells #[.string y0, .int .i64 y1, .slice A6 y2.length c6, .string y3, .int .i64 y4, .int .i64 y5, .string z0, .int .i64 z1, .int .i64 z2, .slice A8 z3.length c8, .int .i64 z4, .int .i64 y6, .int .i64 y7, .bool y8] 35 (0, 0)) by rw [hW4, blk_set K8.out 9]; simp)
      have BW4 := Aside0.mk (show Below wr.heap.size wr W4 by rw [hW4]; exact BW8.out.setCell (Nat.le_refl _) _)
      have R64 := Aside0.mk (show k40.R 40 W4 W1.heap.size (fun b => W1.heap.size ≤ b) (.slice A6 (y2 ++ [(⟨⟨#[109, 97, 114, 107]⟩, 0⟩ : S40)]).length c6) (y2 ++ [(⟨⟨#[109, 97, 114, 107]⟩, 0⟩ : S40)]) by
        rw [hW4]
        exact Kd.R_mono (Kd.R_far (Kd.R_bound (Kd.R_below R63.out B8.out)) (fun b hb e => by have h1 := hb.2.1; have h2 := S1.out; have h3 : b = wr.heap.size := e; omega) _) (fun _ hk => hk.2.1))
      have R84 := Aside0.mk (show k42.R 42 W4 W3.heap.size (fun b => W3.heap.size ≤ b) (.slice A8 (z3 ++ [(⟨⟨#[109, 97, 114, 107]⟩, 0, 0⟩ : S42)]).length c8) (z3 ++ [(⟨⟨#[109, 97, 114, 107]⟩, 0, 0⟩ : S42)]) by
        rw [hW4]
        exact Kd.R_mono (Kd.R_far (Kd.R_bound R8.out) (fun b hb e => by have h1 := hb.2.1; have h2 := S3.out; have h3 : b = wr.heap.size := e; omega) _) (fun _ hk => hk.2.1))
      have m0 : W4.cell? ⟨wr.heap.size, 0, none⟩ = some (.string y0) := (blk_cell K4.out 0).trans rfl
      have m1 : W4.cell? ⟨wr.heap.size, 1, none⟩ = some (.int .i64 y1) := (blk_cell K4.out 1).trans rfl
      have m2 : W4.cell? ⟨wr.heap.size, 2, none⟩ = some (.slice A6 y2.length c6) := (blk_cell K4.out 2).trans rfl
      have m3 : W4.cell? ⟨wr.heap.size, 3, none⟩ = some (.string y3) := (blk_cell K4.out 3).trans rfl
      have m4 : W4.cell? ⟨wr.heap.size, 4, none⟩ = some (.int .i64 y4) := (blk_cell K4.out 4).trans rfl
      have m5 : W4.cell? ⟨wr.heap.size, 5, none⟩ = some (.int .i64 y5) := (blk_cell K4.out 5).trans rfl
      have m6 : W4.cell? ⟨wr.heap.size, 6, none⟩ = some (.string z0) := (blk_cell K4.out 6).trans rfl
      have m7 : W4.cell? ⟨wr.heap.size, 7, none⟩ = some (.int .i64 z1) := (blk_cell K4.out 7).trans rfl
      have m8 : W4.cell? ⟨wr.heap.size, 8, none⟩ = some (.int .i64 z2) := (blk_cell K4.out 8).trans rfl
      have m9 : W4.cell? ⟨wr.heap.size, 9, none⟩ = some (.slice A8 z3.length c8) := (blk_cell K4.out 9).trans rfl
      have m10 : W4.cell? ⟨wr.heap.size, 10, none⟩ = some (.int .i64 z4) := (blk_cell K4.out 10).trans rfl
      have m11 : W4.cell? ⟨wr.heap.size, 11, none⟩ = some (.int .i64 y6) := (blk_cell K4.out 11).trans rfl
      have m12 : W4.cell? ⟨wr.heap.size, 12, none⟩ = some (.int .i64 y7) := (blk_cell K4.out 12).trans rfl
      have m13 : W4.cell? ⟨wr.heap.size, 13, none⟩ = some (.bool y8) := (blk_cell K4.out 13).trans rfl
      clear hW4 e9 q9 hc8
      have HLE := Aside0.mk (show wr.heap.size ≤ W3.heap.size ∧ w.heap.size ≤ wr.heap.size ∧ w.heap.size ≤ W4.heap.size from ⟨Nat.le_of_lt S3.out, B3.out.size, Nat.le_trans B3.out.size BW4.out.size⟩)
      go_wp2_with (first | ((with_reducible refine gate_builtin (b := .append) (xs := #[.tmp 50, .tmp 52]) rfl ?_); at_builtin; refine Kd.R_append kOpM (w0 := w) w.heap.size rfl (.tmp 50) (.tmp 52) 22 35 (.agg #[.string ⟨#[]⟩, .int .i64 0, .slice none 0 0, .string ⟨#[]⟩, .int .i64 0, .int .i64 0, .string ⟨#[]⟩, .int .i64 0, .int .i64 0, .slice none 0 0, .int .i64 0, .int .i64 0, .int .i64 0, .bool false]) 168 rfl Try.underlying22 infoOpZ rfl (by decide) (by omega) (u3) (l.take k) (⟨⟨y0, y1, y2, y3, y4, y5⟩, ⟨z0, z1, z2, z3, z4⟩, y6, y7, y8⟩) ([.string y0, .int .i64 y1, .slice A6 y2.length c6, .string y3, .int .i64 y4, .int .i64 y5, .string z0, .int .i64 z1, .int .i64 z2, .slice A8 z3.length c8, .int .i64 z4, .int .i64 y6, .int .i64 y7, .bool y8]) (fun b => w.heap.size ≤ b) (fun b => wr.heap.size ≤ b) ?aV ?aX ?aP (fun b hb => ⟨Nat.le_trans HLE.out.2.1 hb, fun e => by have := Kd.R_lt R3.out b e.symm; omega⟩) (fun b hb => Nat.le_trans HLE.out.2.2 hb) ?aO ?aB ?aS ?aL ?_; (case aV => rfl); (case aX => rfl); (case aP => exact kOpM_mkM (z2 := (⟨⟨#[109, 97, 114, 107]⟩, 0⟩ : S40)) (z9 := (⟨⟨#[109, 97, 114, 107]⟩, 0, 0⟩ : S42)) W4 w.heap.size (fun b => wr.heap.size ≤ b) ⟨⟨y0, y1, y2, y3, y4, y5⟩, ⟨z0, z1, z2, z3, z4⟩, y6, y7, y8⟩ hc6' rfl (Kd.R_mono (Kd.R_lower R64.out (Nat.le_trans HLE.out.2.1 (Nat.le_of_lt S1.out))) (fun b hb => Nat.le_trans (Nat.le_of_lt S1.out) hb)) hc8' rfl (Kd.R_mono (Kd.R_lower R84.out (Nat.le_trans HLE.out.2.1 HLE.out.1)) (fun b hb => Nat.le_trans HLE.out.1 hb))); (case aO => exact Kd.R_below R3.out BW4.out); (case aB => exact below_then B3.out (below_size B3.out) BW4.out); (case aS => exact HLE.out.2.2); (case aL => rw [List.length_take]; omega); intro v10 w10 ho hb hgr hat; obtain ⟨A10, c10, e10, hc10, hC10⟩ := Kd.R_reads ho; clear hC10; obtain ⟨n10, hn10⟩ : ∃ n10, n10 = (l.take k ++ [(⟨⟨y0, y1, y2, y3, y4, y5⟩, ⟨z0, z1, z2, z3, z4⟩, y6, y7, y8⟩ : S35)]).length := ⟨_, rfl⟩; rw [← hn10] at e10 hc10; subst e10; clear hn10; have R10 := Aside0.mk ho; have B10 := Aside0.mk hb; clear ho hb hgr hat))
      go_roundw
      case rel => exact ⟨k + 1, by omega, by go_num, ⟨by rw [HT.out]; exact R10.out⟩, B10⟩
      case measure => simp [intOf]; omega
    · obtain rfl : k = l.length := by omega
      have r3 := R3.out
      rw [List.take_length] at r3
      obtain ⟨h0, inner, hown, hrp⟩ := r3
      have HOWN := Aside0.mk hown
      have HRP := Aside0.mk hrp
      have H0 := Aside0.mk h0
      clear hown hrp h0
      go_wp2_with (first | ((with_reducible refine gate_builtin (b := .append) (xs := #[.tmp 54, .tmp 56]) rfl ?_); at_builtin; refine print_append_cells (w0 := w) w.heap.size rfl (.tmp 54) (.tmp 56) 22 35 (.agg #[.string ⟨#[]⟩, .int .i64 0, .slice none 0 0, .string ⟨#[]⟩, .int .i64 0, .int .i64 0, .string ⟨#[]⟩, .int .i64 0, .int .i64 0, .slice none 0 0, .int .i64 0, .int .i64 0, .int .i64 0, .bool false]) 14 168 rfl Try.underlying22 infoOpZ rfl (by decide) (by omega) u3 l.length inner [.string ⟨#[]⟩, .int .i64 0, .slice none 0 0, .string ⟨#[]⟩, .int .i64 0, .int .i64 0, .string ⟨#[]⟩, .int .i64 0, .int .i64 0, .slice none 0 0, .int .i64 0, .int .i64 (-7), .int .i64 0, .bool false] ?aV ?aX rfl ?a1 ?aO ?aB ?aS ?aL ?_; (case aV => rfl); (case aX => rfl); (case a1 => (intro u hu; simp only [List.mem_cons, List.not_mem_nil, or_false] at hu; rcases hu with rfl | rfl | rfl | rfl | rfl | rfl | rfl | rfl | rfl | rfl | rfl | rfl | rfl | rfl <;> rfl)); (case aO => exact HOWN.out); (case aB => exact B3.out); (case aS => exact below_size B3.out); (case aL => omega); intro v10 w10 ho hb hgr hat; obtain ⟨A11, c11, e11, hcap11⟩ := q_slice (q_of_own ho); subst e11; have R10 := Aside0.mk ho; have B10 := Aside0.mk hb; have G10 := Aside0.mk hgr; clear ho hb hgr hat))
      go_ret
      have hrp : Reps (kOpM.K w10) 14 l inner := HRP.out.imp_ (fun p c h => kOpM.K_of_M (Kd.M_grown h G10.out (fun b hb => hb.2)))
      obtain ⟨A', c', e, hT⟩ := twin_end R10.out hrp rfl
      cases e
      exact ⟨_, _, rfl, hT, B10.out⟩
end Go.Proofs.Ytkjbbihnhbaipaa.Lu
