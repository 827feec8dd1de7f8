/- lin.Until: the walk. No condition. -/
import Derived.Test.YtkjbbihnhbaipaaLuTwinW
import Derived.Test.YtkjbbihnhbaipaaLuClone
import Derived.Test.YtkjbbihnhbaipaaPLinUntilsx7
import Derived.Deep.DeepCutAuto
namespace Go.Proofs.Ytkjbbihnhbaipaa.Lu
open Go.RowKit Go.Proofs.YtkjbbihnhbaipaaW.PrintWords Go.Proofs.YtkjbbihnhbaipaaW.PrintLast Go.Proofs.YtkjbbihnhbaipaaW.PrintMore Go.Proofs.Ytkjbbihnhbaipaa.Mk Go.Proofs.Ytkjbbihnhbaipaa.PLinUntils
set_option linter.unusedVariables false
set_option linter.unusedSimpArgs false

/-- What Until leaves of an op, and of a history. -/
def untilOne (m : Int) (y : S35) : S35 := if y.f3 > m then ⟨y.f0, ⟨⟨#[]⟩, 0, 0, [], 0⟩, y.f2, 4611686018427387904, true⟩ else y
def untilF (m : Int) (l : List S35) : List S35 := (l.filter (fun y => decide (y.f2 ≤ m))).map (untilOne m)
theorem untilF_len (m : Int) (l : List S35) : (untilF m l).length ≤ l.length := by
  unfold untilF
  rw [List.length_map]
  exact List.length_filter_le _ _
theorem untilF_in (m : Int) (l : List S35) (y : S35) : untilF m (l ++ [y]) = if y.f2 ≤ m then untilF m l ++ [untilOne m y] else untilF m l := by
  unfold untilF
  rw [List.filter_append, List.map_append]
  by_cases h : y.f2 ≤ m
  · rw [if_pos h]; simp [h]
  · rw [if_neg h]; simp [h]

set_option maxRecDepth 100000 in
set_option maxHeartbeats 8000000 in
theorem until_calls (A : Option Addr) (c : Nat) (l : List S35) (m : Int) (kk : Nat) (r1 r2 : Int) (w : World) (hr : Kd.C k35 w A l.length l) (hc : l.length ≤ c) (hg : ∀ y ∈ l, y.f0.f2.length * 24 ≤ 140737488351232 ∧ y.f1.f3.length * 32 ≤ 140737488351232) (hg2 : l.length * 168 ≤ 140737488351232) (hk : lin_Check.f kk l = some (r1, r2)) :
    Calls Try.prog 12 #[.slice A l.length c, .int .i64 m] w fun e w' => ∃ v, e = .returned v ∧ k35.R 35 w' w.heap.size (fun b => w.heap.size ≤ b) v (if r1 = 0 then untilF m l else []) ∧ Below w.heap.size w w' := by
  have HR := Aside0.mk hr
  have HC := Aside0.mk hc
  have HG := Aside0.mk hg
  have HK := Aside0.mk hk
  clear hr hc hg hk
  have hu35 := Try.underlying35
  have hu33 := Try.underlying33
  by_cases h0 : r1 = 0
  case neg =>
    rw [if_neg h0]
    have hne : (r1 == 0) = false := beq_eq_false_iff_ne.2 h0
    go_enter Try.func12, Try.ntmps12
    go_wp2_with (first | ((with_reducible refine gate_callee (f := 7) rfl ?_); refine goesL_ (some 12) rfl rfl Try.func7 (by kernel_rfl) rfl #[.slice A l.length c] rfl (by (try simp only [List.map_toArray, List.map_cons, List.map_nil]); first | done | rfl) ?_; (with_reducible refine (lin_Check.calls kk _ _ l _ r2 _ HR.out HC.out HK.out).mono ?_); rintro e w1 ⟨rfl, hb⟩; refine ⟨_, rfl, ?_⟩; have B1 := Aside0.mk hb; clear hb))
    go_ret
    exact ⟨_, rfl, Kd.R_nil _ _ _ _ _, B1.out⟩
  subst h0
  rw [if_pos rfl]
  go_enter Try.func12, Try.ntmps12
  go_wp2_with (first | ((with_reducible refine gate_callee (f := 7) rfl ?_); refine goesL_ (some 12) rfl rfl Try.func7 (by kernel_rfl) rfl #[.slice A l.length c] rfl (by (try simp only [List.map_toArray, List.map_cons, List.map_nil]); first | done | rfl) ?_; (with_reducible refine (lin_Check.calls kk _ _ l _ r2 _ HR.out HC.out HK.out).mono ?_); rintro e w1 ⟨rfl, hb⟩; refine ⟨_, rfl, ?_⟩; have B1 := Aside0.mk hb; clear hb))
  go_loopw [7, 9, 19] (fun v7 v9 v19 wr => ∃ k : Nat, k ≤ l.length ∧ v19 = .int .i64 k ∧ Aside0 (k35.R 35 wr w.heap.size (fun b => w.heap.size ≤ b) v7 (untilF m (l.take k))) ∧ Aside0 (Below w.heap.size w wr)) (fun _ _ v19 _ => l.length - (intOf v19).toNat)
  case atStart => exact ⟨0, Nat.zero_le _, rfl, ⟨Kd.R_nil _ _ _ _ _⟩, B1⟩
  case round =>
    clear B1
    obtain ⟨k, hk, rfl, R3, B3⟩ := hrel
    by_cases hlt : k < l.length
    · obtain ⟨ad, A2, c2, A9, c9, eA, h0, h1, h2, h3, h4, h5, h6, h7, h8, h9, h10, h11, h12, h13, l2, g2, l9, g9⟩ := at_T35 (Kd.C_below HR.out B3.out) (k : Int) (by omega) (by omega)
      subst eA
      rw [Int.toNat_natCast] at *
      have hy : rd_T35 l (k : Int) = l.getD k z35 := rfl
      have hgy := HG.out (rd_T35 l (k : Int)) (by rw [hy, List.getD_eq_getElem?_getD, List.getElem?_eq_getElem hlt]; exact List.getElem_mem hlt)
      have HT := Aside0.mk (show untilF m (l.take (k + 1)) = if (rd_T35 l (k : Int)).f2 ≤ m then untilF m (l.take k) ++ [untilOne m (rd_T35 l (k : Int))] else untilF m (l.take k) by rw [← untilF_in, hy, List.take_succ_eq_append_getElem hlt, List.getD_eq_getElem?_getD, List.getElem?_eq_getElem hlt]; rfl)
      generalize rd_T35 l (k : Int) = y at *
      clear hy
      obtain ⟨⟨y0, y1, y2, y3, y4, y5⟩, ⟨z0, z1, z2, z3, z4⟩, y6, y7, y8⟩ := y
      simp only at h0 h1 h2 h3 h4 h5 h6 h7 h8 h9 h10 h11 h12 h13 l2 g2 l9 g9 hgy HT
      obtain ⟨hb2, hb9⟩ := hgy
      have G2 := Aside0.mk g2
      have G9 := Aside0.mk g9
      clear g2 g9
      by_cases c1 : y6 > m
      · have d1 : decide (y6 > m) = true := decide_eq_true c1
        go_wp2_with fail
        go_roundw
        case rel => exact ⟨k + 1, by omega, by go_num, ⟨by rw [HT.out, if_neg (by omega)]; exact Kd.R_below R3.out (below_alloc (Below.refl _ _) _)⟩, ⟨below_alloc B3.out _⟩⟩
        case measure => simp [intOf]; omega
      have d1 : decide (y6 > m) = false := decide_eq_false c1
      by_cases c2' : y7 > m
      · have d2 : decide (y7 > m) = true := decide_eq_true c2'
        go_upto_region 11 with fail
        obtain ⟨W1, hW1⟩ : ∃ W1, W1 = wr.alloc (.cells #[.string y0, .int .i64 y1, .slice A2 y2.length c2, .string y3, .int .i64 y4, .int .i64 y5, .string ⟨#[]⟩, .int .i64 0, .int .i64 0, .slice none 0 0, .int .i64 0, .int .i64 y6, .int .i64 4611686018427387904, .bool true] 35 (0, 0)) := ⟨_, rfl⟩
        rw [← hW1]
        have UX : ∃ (x0 : ByteArray) (x1 x2 : Int) (x3 : List S42) (x4 x7 : Int) (x8 : Bool) (A7 : Option Addr) (c7 : Nat), untilOne m ⟨⟨y0, y1, y2, y3, y4, y5⟩, ⟨z0, z1, z2, z3, z4⟩, y6, y7, y8⟩ = ⟨⟨y0, y1, y2, y3, y4, y5⟩, ⟨x0, x1, x2, x3, x4⟩, y6, x7, x8⟩ ∧ x3.length ≤ c7 ∧ k42.C wr A7 x3.length x3 ∧ x3.length * 32 ≤ 140737488351232 ∧ W1 = wr.alloc (.cells #[.string y0, .int .i64 y1, .slice A2 y2.length c2, .string y3, .int .i64 y4, .int .i64 y5, .string x0, .int .i64 x1, .int .i64 x2, .slice A7 x3.length c7, .int .i64 x4, .int .i64 y6, .int .i64 x7, .bool x8] 35 (0, 0)) := ⟨⟨#[]⟩, 0, 0, [], 0, 4611686018427387904, true, none, 0, by unfold untilOne; rw [if_pos c2'], Nat.le_refl _, ⟨rfl, Nat.zero_le _, fun h => absurd h (by simp)⟩, by simp, hW1⟩
        clear hW1
        obtain ⟨x0, x1, x2, x3, x4, x7, x8, A7, c7, hUO, l7, g7, hb7, hW1⟩ := UX
        rw [if_pos (show y6 ≤ m by omega), hUO] at HT
        have G7 := Aside0.mk g7
        have K1 := Aside0.mk (show W1.heap[wr.heap.size]? = some (.cells #[.string y0, .int .i64 y1, .slice A2 y2.length c2, .string y3, .int .i64 y4, .int .i64 y5, .string x0, .int .i64 x1, .int .i64 x2, .slice A7 x3.length c7, .int .i64 x4, .int .i64 y6, .int .i64 x7, .bool x8] 35 (0, 0)) by rw [hW1]; exact heap_alloc_new wr _)
        have BW1 := Aside0.mk (show Below wr.heap.size wr W1 by rw [hW1]; exact below_alloc (Below.refl _ _) _)
        have S1 := Aside0.mk (show wr.heap.size < W1.heap.size by rw [hW1, World.size_alloc]; omega)
        have d2 : W1.cell? ⟨wr.heap.size, 2, none⟩ = some (.slice A2 y2.length c2) := (blk_cell K1.out 2).trans rfl
        clear hW1 g7 hUO h0 h1 h2 h3 h4 h5 h6 h7 h8 h9 h10 h11 h12 h13
        go_upto_region 12 with (first | ((with_reducible refine gate_callee (f := 20) rfl ?_); refine goesL_ (some 38) rfl rfl Try.func20 (by kernel_rfl) rfl #[.slice A2 y2.length c2] rfl (by (try simp only [List.map_toArray, List.map_cons, List.map_nil]); first | done | rfl) ?_; (with_reducible refine (clone_line A2 c2 y2 _ (Kd.C_below G2.out BW1.out) l2 hb2).mono ?_); rintro e w5 ⟨v5, rfl, ho, hb⟩; refine ⟨_, rfl, ?_⟩; obtain ⟨A5, c5, e5, hc5, hC5⟩ := Kd.R_reads ho; subst e5; have R5 := Aside0.mk ho; have k5 := (hb.block _ S1.out).trans K1.out; have e2 : w5.cell? ⟨wr.heap.size, 2, none⟩ = some (.slice A2 y2.length c2) := (blk_cell k5 2).trans rfl; have q2 := blk_frozen k5 2; have B5 := Aside0.mk hb; have K5 := Aside0.mk k5; clear ho hb hC5 k5))
        have b5 : Below wr.heap.size wr w5 := below_then BW1.out BW1.out.size B5.out
        have BW5 := Aside0.mk b5
        clear b5 d2
        obtain ⟨W3, hW3⟩ : ∃ W3, W3 = w5.setCell ⟨wr.heap.size, 2, none⟩ (.slice A5 y2.length c5) := ⟨_, rfl⟩
        rw [← hW3]
        have K3 := Aside0.mk (show W3.heap[wr.heap.size]? = some (.cells #[.string y0, .int .i64 y1, .slice A5 y2.length c5, .string y3, .int .i64 y4, .int .i64 y5, .string x0, .int .i64 x1, .int .i64 x2, .slice A7 x3.length c7, .int .i64 x4, .int .i64 y6, .int .i64 x7, .bool x8] 35 (0, 0)) by rw [hW3, blk_set K5.out 2]; simp)
        have BW3 := Aside0.mk (show Below wr.heap.size wr W3 by rw [hW3]; exact BW5.out.setCell (Nat.le_refl _) _)
        have S3 := Aside0.mk (show wr.heap.size < W3.heap.size by rw [hW3, World.size_setCell]; exact Nat.lt_of_lt_of_le S1.out B5.out.size)
        have R53 := Aside0.mk (show k40.R 40 W3 W1.heap.size (fun b => W1.heap.size ≤ b) (.slice A5 y2.length c5) y2 by
          rw [hW3]
          exact Kd.R_mono (Kd.R_far (Kd.R_bound R5.out) (fun b hb e => by have h1 := hb.2.1; have h2 := S1.out; have h3 : b = wr.heap.size := e; omega) _) (fun _ hk => hk.2.1))
        have d9 : W3.cell? ⟨wr.heap.size, 9, none⟩ = some (.slice A7 x3.length c7) := (blk_cell K3.out 9).trans rfl
        clear hW3 e2 q2
        go_upto_region 13 with (first | ((with_reducible refine gate_callee (f := 21) rfl ?_); refine goesL_ (some 44) rfl rfl Try.func21 (by kernel_rfl) rfl #[.slice A7 x3.length c7] rfl (by (try simp only [List.map_toArray, List.map_cons, List.map_nil]); first | done | rfl) ?_; (with_reducible refine (clone_level A7 c7 x3 _ (Kd.C_below G7.out BW3.out) l7 hb7).mono ?_); rintro e w8 ⟨v8, rfl, ho, hb⟩; refine ⟨_, rfl, ?_⟩; obtain ⟨A8, c8, e8, hc8, hC8⟩ := Kd.R_reads ho; subst e8; have R8 := Aside0.mk ho; have k8 := (hb.block _ S3.out).trans K3.out; have e9 : w8.cell? ⟨wr.heap.size, 9, none⟩ = some (.slice A7 x3.length c7) := (blk_cell k8 9).trans rfl; have q9 := blk_frozen k8 9; have B8 := Aside0.mk hb; have K8 := Aside0.mk k8; clear ho hb hC8 k8))
        have b8 : Below wr.heap.size wr w8 := below_then BW3.out BW3.out.size B8.out
        have BW8 := Aside0.mk b8
        clear b8 d9
        obtain ⟨W4, hW4⟩ : ∃ W4, W4 = w8.setCell ⟨wr.heap.size, 9, none⟩ (.slice A8 x3.length c8) := ⟨_, rfl⟩
        rw [← hW4]
        have K4 := Aside0.mk (show W4.heap[wr.heap.size]? = some (.cells #[.string y0, .int .i64 y1, .slice A5 y2.length c5, .string y3, .int .i64 y4, .int .i64 y5, .string x0, .int .i64 x1, .int .i64 x2, .slice A8 x3.length c8, .int .i64 x4, .int .i64 y6, .int .i64 x7, .bool x8] 35 (0, 0)) by rw [hW4, blk_set K8.out 9]; simp)
        have BW4 := Aside0.mk (show Below wr.heap.size wr W4 by rw [hW4]; exact BW8.out.setCell (Nat.le_refl _) _)
        have R54 := Aside0.mk (show k40.R 40 W4 W1.heap.size (fun b => W1.heap.size ≤ b) (.slice A5 y2.length c5) y2 by
          rw [hW4]
          exact Kd.R_mono (Kd.R_far (Kd.R_bound (Kd.R_below R53.out B8.out)) (fun b hb e => by have h1 := hb.2.1; have h2 := S1.out; have h3 : b = wr.heap.size := e; omega) _) (fun _ hk => hk.2.1))
        have R84 := Aside0.mk (show k42.R 42 W4 W3.heap.size (fun b => W3.heap.size ≤ b) (.slice A8 x3.length c8) x3 by
          rw [hW4]
          exact Kd.R_mono (Kd.R_far (Kd.R_bound R8.out) (fun b hb e => by have h1 := hb.2.1; have h2 := S3.out; have h3 : b = wr.heap.size := e; omega) _) (fun _ hk => hk.2.1))
        have m0 : W4.cell? ⟨wr.heap.size, 0, none⟩ = some (.string y0) := (blk_cell K4.out 0).trans rfl
        have m1 : W4.cell? ⟨wr.heap.size, 1, none⟩ = some (.int .i64 y1) := (blk_cell K4.out 1).trans rfl
        have m2 : W4.cell? ⟨wr.heap.size, 2, none⟩ = some (.slice A5 y2.length c5) := (blk_cell K4.out 2).trans rfl
        have m3 : W4.cell? ⟨wr.heap.size, 3, none⟩ = some (.string y3) := (blk_cell K4.out 3).trans rfl
        have m4 : W4.cell? ⟨wr.heap.size, 4, none⟩ = some (.int .i64 y4) := (blk_cell K4.out 4).trans rfl
        have m5 : W4.cell? ⟨wr.heap.size, 5, none⟩ = some (.int .i64 y5) := (blk_cell K4.out 5).trans rfl
        have m6 : W4.cell? ⟨wr.heap.size, 6, none⟩ = some (.string x0) := (blk_cell K4.out 6).trans rfl
        have m7 : W4.cell? ⟨wr.heap.size, 7, none⟩ = some (.int .i64 x1) := (blk_cell K4.out 7).trans rfl
        have m8 : W4.cell? ⟨wr.heap.size, 8, none⟩ = some (.int .i64 x2) := (blk_cell K4.out 8).trans rfl
        have m9 : W4.cell? ⟨wr.heap.size, 9, none⟩ = some (.slice A8 x3.length c8) := (blk_cell K4.out 9).trans rfl
        have m10 : W4.cell? ⟨wr.heap.size, 10, none⟩ = some (.int .i64 x4) := (blk_cell K4.out 10).trans rfl
        have m11 : W4.cell? ⟨wr.heap.size, 11, none⟩ = some (.int .i64 y6) := (blk_cell K4.out 11).trans rfl
        have m12 : W4.cell? ⟨wr.heap.size, 12, none⟩ = some (.int .i64 x7) := (blk_cell K4.out 12).trans rfl
        have m13 : W4.cell? ⟨wr.heap.size, 13, none⟩ = some (.bool x8) := (blk_cell K4.out 13).trans rfl
        clear hW4 e9 q9
        have HLE := Aside0.mk (show wr.heap.size ≤ W3.heap.size ∧ w.heap.size ≤ wr.heap.size ∧ w.heap.size ≤ W4.heap.size from ⟨Nat.le_of_lt S3.out, B3.out.size, Nat.le_trans B3.out.size BW4.out.size⟩)
        have hUL : (untilF m (l.take k)).length ≤ k := Nat.le_trans (untilF_len m _) (by rw [List.length_take]; omega)
        go_wp2_with (first | ((with_reducible refine gate_builtin (b := .append) (xs := #[.tmp 47, .tmp 49]) rfl ?_); at_builtin; refine Kd.R_append k35 (w0 := w) w.heap.size rfl (.tmp 47) (.tmp 49) 22 35 (.agg #[.string ⟨#[]⟩, .int .i64 0, .slice none 0 0, .string ⟨#[]⟩, .int .i64 0, .int .i64 0, .string ⟨#[]⟩, .int .i64 0, .int .i64 0, .slice none 0 0, .int .i64 0, .int .i64 0, .int .i64 0, .bool false]) 168 rfl Try.underlying22 infoOpZ rfl (by decide) (by omega) (u7) (untilF m (l.take k)) (⟨⟨y0, y1, y2, y3, y4, y5⟩, ⟨x0, x1, x2, x3, x4⟩, y6, x7, x8⟩) ([.string y0, .int .i64 y1, .slice A5 y2.length c5, .string y3, .int .i64 y4, .int .i64 y5, .string x0, .int .i64 x1, .int .i64 x2, .slice A8 x3.length c8, .int .i64 x4, .int .i64 y6, .int .i64 x7, .bool x8]) (fun b => w.heap.size ≤ b) (fun b => wr.heap.size ≤ b) ?aV ?aX ?aP (fun b hb => ⟨Nat.le_trans HLE.out.2.1 hb, fun e => by have := Kd.R_lt R3.out b e.symm; omega⟩) (fun b hb => Nat.le_trans HLE.out.2.2 hb) ?aO ?aB ?aS ?aL ?_; (case aV => rfl); (case aX => rfl); (case aP => exact k35_mkM W4 w.heap.size (fun b => wr.heap.size ≤ b) ⟨⟨y0, y1, y2, y3, y4, y5⟩, ⟨x0, x1, x2, x3, x4⟩, y6, x7, x8⟩ (Kd.R_mono (Kd.R_lower R54.out (Nat.le_trans HLE.out.2.1 (Nat.le_of_lt S1.out))) (fun b hb => Nat.le_trans (Nat.le_of_lt S1.out) hb)) (Kd.R_mono (Kd.R_lower R84.out (Nat.le_trans HLE.out.2.1 HLE.out.1)) (fun b hb => Nat.le_trans HLE.out.1 hb))); (case aO => exact Kd.R_below R3.out BW4.out); (case aB => exact below_then B3.out (below_size B3.out) BW4.out); (case aS => exact HLE.out.2.2); (case aL => omega); intro v10 w10 ho hb hgr hat; obtain ⟨A10, c10, e10, hc10, hC10⟩ := Kd.R_reads ho; clear hC10; obtain ⟨n10, hn10⟩ : ∃ n10, n10 = (untilF m (l.take k) ++ [(⟨⟨y0, y1, y2, y3, y4, y5⟩, ⟨x0, x1, x2, x3, x4⟩, y6, x7, x8⟩ : S35)]).length := ⟨_, rfl⟩; rw [← hn10] at e10 hc10; subst e10; clear hn10; have R10 := Aside0.mk ho; have B10 := Aside0.mk hb; clear ho hb hgr hat))
        go_roundw
        case rel => exact ⟨k + 1, by omega, by go_num, ⟨by rw [HT.out]; exact R10.out⟩, B10⟩
        case measure => simp [intOf]; omega
      · have d2 : decide (y7 > m) = false := decide_eq_false c2'
        go_upto_region 11 with fail
        obtain ⟨W1, hW1⟩ : ∃ W1, W1 = wr.alloc (.cells #[.string y0, .int .i64 y1, .slice A2 y2.length c2, .string y3, .int .i64 y4, .int .i64 y5, .string z0, .int .i64 z1, .int .i64 z2, .slice A9 z3.length c9, .int .i64 z4, .int .i64 y6, .int .i64 y7, .bool y8] 35 (0, 0)) := ⟨_, rfl⟩
        rw [← hW1]
        have UX : ∃ (x0 : ByteArray) (x1 x2 : Int) (x3 : List S42) (x4 x7 : Int) (x8 : Bool) (A7 : Option Addr) (c7 : Nat), untilOne m ⟨⟨y0, y1, y2, y3, y4, y5⟩, ⟨z0, z1, z2, z3, z4⟩, y6, y7, y8⟩ = ⟨⟨y0, y1, y2, y3, y4, y5⟩, ⟨x0, x1, x2, x3, x4⟩, y6, x7, x8⟩ ∧ x3.length ≤ c7 ∧ k42.C wr A7 x3.length x3 ∧ x3.length * 32 ≤ 140737488351232 ∧ W1 = wr.alloc (.cells #[.string y0, .int .i64 y1, .slice A2 y2.length c2, .string y3, .int .i64 y4, .int .i64 y5, .string x0, .int .i64 x1, .int .i64 x2, .slice A7 x3.length c7, .int .i64 x4, .int .i64 y6, .int .i64 x7, .bool x8] 35 (0, 0)) := ⟨z0, z1, z2, z3, z4, y7, y8, A9, c9, by unfold untilOne; rw [if_neg c2'], l9, G9.out, hb9, hW1⟩
        clear hW1
        obtain ⟨x0, x1, x2, x3, x4, x7, x8, A7, c7, hUO, l7, g7, hb7, hW1⟩ := UX
        rw [if_pos (show y6 ≤ m by omega), hUO] at HT
        have G7 := Aside0.mk g7
        have K1 := Aside0.mk (show W1.heap[wr.heap.size]? = some (.cells #[.string y0, .int .i64 y1, .slice A2 y2.length c2, .string y3, .int .i64 y4, .int .i64 y5, .string x0, .int .i64 x1, .int .i64 x2, .slice A7 x3.length c7, .int .i64 x4, .int .i64 y6, .int .i64 x7, .bool x8] 35 (0, 0)) by rw [hW1]; exact heap_alloc_new wr _)
        have BW1 := Aside0.mk (show Below wr.heap.size wr W1 by rw [hW1]; exact below_alloc (Below.refl _ _) _)
        have S1 := Aside0.mk (show wr.heap.size < W1.heap.size by rw [hW1, World.size_alloc]; omega)
        have d2 : W1.cell? ⟨wr.heap.size, 2, none⟩ = some (.slice A2 y2.length c2) := (blk_cell K1.out 2).trans rfl
        clear hW1 g7 hUO h0 h1 h2 h3 h4 h5 h6 h7 h8 h9 h10 h11 h12 h13
        go_upto_region 12 with (first | ((with_reducible refine gate_callee (f := 20) rfl ?_); refine goesL_ (some 38) rfl rfl Try.func20 (by kernel_rfl) rfl #[.slice A2 y2.length c2] rfl (by (try simp only [List.map_toArray, List.map_cons, List.map_nil]); first | done | rfl) ?_; (with_reducible refine (clone_line A2 c2 y2 _ (Kd.C_below G2.out BW1.out) l2 hb2).mono ?_); rintro e w5 ⟨v5, rfl, ho, hb⟩; refine ⟨_, rfl, ?_⟩; obtain ⟨A5, c5, e5, hc5, hC5⟩ := Kd.R_reads ho; subst e5; have R5 := Aside0.mk ho; have k5 := (hb.block _ S1.out).trans K1.out; have e2 : w5.cell? ⟨wr.heap.size, 2, none⟩ = some (.slice A2 y2.length c2) := (blk_cell k5 2).trans rfl; have q2 := blk_frozen k5 2; have B5 := Aside0.mk hb; have K5 := Aside0.mk k5; clear ho hb hC5 k5))
        have b5 : Below wr.heap.size wr w5 := below_then BW1.out BW1.out.size B5.out
        have BW5 := Aside0.mk b5
        clear b5 d2
        obtain ⟨W3, hW3⟩ : ∃ W3, W3 = w5.setCell ⟨wr.heap.size, 2, none⟩ (.slice A5 y2.length c5) := ⟨_, rfl⟩
        rw [← hW3]
        have K3 := Aside0.mk (show W3.heap[wr.heap.size]? = some (.cells #[.string y0, .int .i64 y1, .slice A5 y2.length c5, .string y3, .int .i64 y4, .int .i64 y5, .string x0, .int .i64 x1, .int .i64 x2, .slice A7 x3.length c7, .int .i64 x4, .int .i64 y6, .int .i64 x7, .bool x8] 35 (0, 0)) by rw [hW3, blk_set K5.out 2]; simp)
        have BW3 := Aside0.mk (show Below wr.heap.size wr W3 by rw [hW3]; exact BW5.out.setCell (Nat.le_refl _) _)
        have S3 := Aside0.mk (show wr.heap.size < W3.heap.size by rw [hW3, World.size_setCell]; exact Nat.lt_of_lt_of_le S1.out B5.out.size)
        have R53 := Aside0.mk (show k40.R 40 W3 W1.heap.size (fun b => W1.heap.size ≤ b) (.slice A5 y2.length c5) y2 by
          rw [hW3]
          exact Kd.R_mono (Kd.R_far (Kd.R_bound R5.out) (fun b hb e => by have h1 := hb.2.1; have h2 := S1.out; have h3 : b = wr.heap.size := e; omega) _) (fun _ hk => hk.2.1))
        have d9 : W3.cell? ⟨wr.heap.size, 9, none⟩ = some (.slice A7 x3.length c7) := (blk_cell K3.out 9).trans rfl
        clear hW3 e2 q2
        go_upto_region 13 with (first | ((with_reducible refine gate_callee (f := 21) rfl ?_); refine goesL_ (some 44) rfl rfl Try.func21 (by kernel_rfl) rfl #[.slice A7 x3.length c7] rfl (by (try simp only [List.map_toArray, List.map_cons, List.map_nil]); first | done | rfl) ?_; (with_reducible refine (clone_level A7 c7 x3 _ (Kd.C_below G7.out BW3.out) l7 hb7).mono ?_); rintro e w8 ⟨v8, rfl, ho, hb⟩; refine ⟨_, rfl, ?_⟩; obtain ⟨A8, c8, e8, hc8, hC8⟩ := Kd.R_reads ho; subst e8; have R8 := Aside0.mk ho; have k8 := (hb.block _ S3.out).trans K3.out; have e9 : w8.cell? ⟨wr.heap.size, 9, none⟩ = some (.slice A7 x3.length c7) := (blk_cell k8 9).trans rfl; have q9 := blk_frozen k8 9; have B8 := Aside0.mk hb; have K8 := Aside0.mk k8; clear ho hb hC8 k8))
        have b8 : Below wr.heap.size wr w8 := below_then BW3.out BW3.out.size B8.out
        have BW8 := Aside0.mk b8
        clear b8 d9
        obtain ⟨W4, hW4⟩ : ∃ W4, W4 = w8.setCell ⟨wr.heap.size, 9, none⟩ (.slice A8 x3.length c8) := ⟨_, rfl⟩
        rw [← hW4]
        have K4 := Aside0.mk (show W4.heap[wr.heap.size]? = some (.cells #[.string y0, .int .i64 y1, .slice A5 y2.length c5, .string y3, .int .i64 y4, .int .i64 y5, .string x0, .int .i64 x1, .int .i64 x2, .slice A8 x3.length c8, .int .i64 x4, .int .i64 y6, .int .i64 x7, .bool x8] 35 (0, 0)) by rw [hW4, blk_set K8.out 9]; simp)
        have BW4 := Aside0.mk (show Below wr.heap.size wr W4 by rw [hW4]; exact BW8.out.setCell (Nat.le_refl _) _)
        have R54 := Aside0.mk (show k40.R 40 W4 W1.heap.size (fun b => W1.heap.size ≤ b) (.slice A5 y2.length c5) y2 by
          rw [hW4]
          exact Kd.R_mono (Kd.R_far (Kd.R_bound (Kd.R_below R53.out B8.out)) (fun b hb e => by have h1 := hb.2.1; have h2 := S1.out; have h3 : b = wr.heap.size := e; omega) _) (fun _ hk => hk.2.1))
        have R84 := Aside0.mk (show k42.R 42 W4 W3.heap.size (fun b => W3.heap.size ≤ b) (.slice A8 x3.length c8) x3 by
          rw [hW4]
          exact Kd.R_mono (Kd.R_far (Kd.R_bound R8.out) (fun b hb e => by have h1 := hb.2.1; have h2 := S3.out; have h3 : b = wr.heap.size := e; omega) _) (fun _ hk => hk.2.1))
        have m0 : W4.cell? ⟨wr.heap.size, 0, none⟩ = some (.string y0) := (blk_cell K4.out 0).trans rfl
        have m1 : W4.cell? ⟨wr.heap.size, 1, none⟩ = some (.int .i64 y1) := (blk_cell K4.out 1).trans rfl
        have m2 : W4.cell? ⟨wr.heap.size, 2, none⟩ = some (.slice A5 y2.length c5) := (blk_cell K4.out 2).trans rfl
        have m3 : W4.cell? ⟨wr.heap.size, 3, none⟩ = some (.string y3) := (blk_cell K4.out 3).trans rfl
        have m4 : W4.cell? ⟨wr.heap.size, 4, none⟩ = some (.int .i64 y4) := (blk_cell K4.out 4).trans rfl
        have m5 : W4.cell? ⟨wr.heap.size, 5, none⟩ = some (.int .i64 y5) := (blk_cell K4.out 5).trans rfl
        have m6 : W4.cell? ⟨wr.heap.size, 6, none⟩ = some (.string x0) := (blk_cell K4.out 6).trans rfl
        have m7 : W4.cell? ⟨wr.heap.size, 7, none⟩ = some (.int .i64 x1) := (blk_cell K4.out 7).trans rfl
        have m8 : W4.cell? ⟨wr.heap.size, 8, none⟩ = some (.int .i64 x2) := (blk_cell K4.out 8).trans rfl
        have m9 : W4.cell? ⟨wr.heap.size, 9, none⟩ = some (.slice A8 x3.length c8) := (blk_cell K4.out 9).trans rfl
        have m10 : W4.cell? ⟨wr.heap.size, 10, none⟩ = some (.int .i64 x4) := (blk_cell K4.out 10).trans rfl
        have m11 : W4.cell? ⟨wr.heap.size, 11, none⟩ = some (.int .i64 y6) := (blk_cell K4.out 11).trans rfl
        have m12 : W4.cell? ⟨wr.heap.size, 12, none⟩ = some (.int .i64 x7) := (blk_cell K4.out 12).trans rfl
        have m13 : W4.cell? ⟨wr.heap.size, 13, none⟩ = some (.bool x8) := (blk_cell K4.out 13).trans rfl
        clear hW4 e9 q9
        have HLE := Aside0.mk (show wr.heap.size ≤ W3.heap.size ∧ w.heap.size ≤ wr.heap.size ∧ w.heap.size ≤ W4.heap.size from ⟨Nat.le_of_lt S3.out, B3.out.size, Nat.le_trans B3.out.size BW4.out.size⟩)
        have hUL : (untilF m (l.take k)).length ≤ k := Nat.le_trans (untilF_len m _) (by rw [List.length_take]; omega)
        go_wp2_with (first | ((with_reducible refine gate_builtin (b := .append) (xs := #[.tmp 47, .tmp 49]) rfl ?_); at_builtin; refine Kd.R_append k35 (w0 := w) w.heap.size rfl (.tmp 47) (.tmp 49) 22 35 (.agg #[.string ⟨#[]⟩, .int .i64 0, .slice none 0 0, .string ⟨#[]⟩, .int .i64 0, .int .i64 0, .string ⟨#[]⟩, .int .i64 0, .int .i64 0, .slice none 0 0, .int .i64 0, .int .i64 0, .int .i64 0, .bool false]) 168 rfl Try.underlying22 infoOpZ rfl (by decide) (by omega) (u7) (untilF m (l.take k)) (⟨⟨y0, y1, y2, y3, y4, y5⟩, ⟨x0, x1, x2, x3, x4⟩, y6, x7, x8⟩) ([.string y0, .int .i64 y1, .slice A5 y2.length c5, .string y3, .int .i64 y4, .int .i64 y5, .string x0, .int .i64 x1, .int .i64 x2, .slice A8 x3.length c8, .int .i64 x4, .int .i64 y6, .int .i64 x7, .bool x8]) (fun b => w.heap.size ≤ b) (fun b => wr.heap.size ≤ b) ?aV ?aX ?aP (fun b hb => ⟨Nat.le_trans HLE.out.2.1 hb, fun e => by have := Kd.R_lt R3.out b e.symm; omega⟩) (fun b hb => Nat.le_trans HLE.out.2.2 hb) ?aO ?aB ?aS ?aL ?_; (case aV => rfl); (case aX => rfl); (case aP => exact k35_mkM W4 w.heap.size (fun b => wr.heap.size ≤ b) ⟨⟨y0, y1, y2, y3, y4, y5⟩, ⟨x0, x1, x2, x3, x4⟩, y6, x7, x8⟩ (Kd.R_mono (Kd.R_lower R54.out (Nat.le_trans HLE.out.2.1 (Nat.le_of_lt S1.out))) (fun b hb => Nat.le_trans (Nat.le_of_lt S1.out) hb)) (Kd.R_mono (Kd.R_lower R84.out (Nat.le_trans HLE.out.2.1 HLE.out.1)) (fun b hb => Nat.le_trans HLE.out.1 hb))); (case aO => exact Kd.R_below R3.out BW4.out); (case aB => exact below_then B3.out (below_size B3.out) BW4.out); (case aS => exact HLE.out.2.2); (case aL => omega); intro v10 w10 ho hb hgr hat; obtain ⟨A10, c10, e10, hc10, hC10⟩ := Kd.R_reads ho; clear hC10; obtain ⟨n10, hn10⟩ : ∃ n10, n10 = (untilF m (l.take k) ++ [(⟨⟨y0, y1, y2, y3, y4, y5⟩, ⟨x0, x1, x2, x3, x4⟩, y6, x7, x8⟩ : S35)]).length := ⟨_, rfl⟩; rw [← hn10] at e10 hc10; subst e10; clear hn10; have R10 := Aside0.mk ho; have B10 := Aside0.mk hb; clear ho hb hgr hat))
        go_roundw
        case rel => exact ⟨k + 1, by omega, by go_num, ⟨by rw [HT.out]; exact R10.out⟩, B10⟩
        case measure => simp [intOf]; omega
    · obtain rfl : k = l.length := by omega
      go_wp2_with fail
      go_ret
      refine ⟨_, rfl, ?_, B3.out⟩
      have r3 := R3.out
      rw [List.take_length] at r3
      exact r3
end Go.Proofs.Ytkjbbihnhbaipaa.Lu
