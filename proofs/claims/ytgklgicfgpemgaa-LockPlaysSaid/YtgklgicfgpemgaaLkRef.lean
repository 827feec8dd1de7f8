/- Stripes: the document's own table in memory, and the contracts of its functions. No condition beside the table's size. -/
import Derived.Test.YtgklgicfgpemgaaLkTab
namespace Go.Proofs.Ytgklgicfgpemgaa.Lk
open Go.RowKit Go.Proofs.YtgklgicfgpemgaaW.PrintWords
set_option linter.unusedVariables false
set_option linter.unusedSimpArgs false

structure RTab (a g : Nat) (xs : List Lane) (w : World) : Prop where
  ne : a ≠ g
  len : xs.length ≤ 64
  head : w.heap[a]? = some (.cells #[.slice (some ⟨g, 0, none⟩) xs.length xs.length] 65 (0, 0))
  row : w.heap[g]? = some (.cells (flat xs).toArray 67 (0, 0))

section
variable {a g : Nat} {xs : List Lane} {w w' : World}
theorem RTab.hd (h : RTab a g xs w) : w.cell? ⟨a, 0, none⟩ = some (.slice (some ⟨g, 0, none⟩) xs.length xs.length) := (blk_cell h.head 0).trans rfl
theorem RTab.c0 (h : RTab a g xs w) (i : Nat) (hi : i < xs.length) : w.cell? ⟨g, i * 3, none⟩ = some (.int .i64 (xs.getD i L0).given) := by
  have := (blk_cell h.row (i * 3 + 0)).trans (by simpa using flat_get xs i 0 hi (by omega))
  simpa [laneCells] using this
theorem RTab.c1 (h : RTab a g xs w) (i : Nat) (hi : i < xs.length) : w.cell? ⟨g, i * 3 + 1, none⟩ = some (.int .i64 (xs.getD i L0).left) := by
  have := (blk_cell h.row (i * 3 + 1)).trans (by simpa using flat_get xs i 1 hi (by omega))
  simpa [laneCells] using this
theorem RTab.c2 (h : RTab a g xs w) (i : Nat) (hi : i < xs.length) : w.cell? ⟨g, i * 3 + 2, none⟩ = some (.int .i64 (xs.getD i L0).seq) := by
  have := (blk_cell h.row (i * 3 + 2)).trans (by simpa using flat_get xs i 2 hi (by omega))
  simpa [laneCells] using this
theorem RTab.fz (h : RTab a g xs w) (i : Nat) : w.frozen? ⟨g, i, none⟩ = false := blk_frozen h.row i
theorem RTab.drewN (h : RTab a g xs w) (n : Nat) : RTab a g xs (w.drewN n) := ⟨h.ne, h.len, h.head, h.row⟩
theorem RTab.moved (h : RTab a g xs w) (ha : w'.heap[a]? = w.heap[a]?) (hg : w'.heap[g]? = w.heap[g]?) : RTab a g xs w' := ⟨h.ne, h.len, ha.trans h.head, hg.trans h.row⟩
theorem RTab.set (h : RTab a g xs w) (i j : Nat) (u : Value) (y : Lane) (hi : i < xs.length) (hj : j < 3) (hy : laneCells y = (laneCells (xs.getD i L0)).set j u) : RTab a g (xs.set i y) (w.setCell ⟨g, i * 3 + j, none⟩ u) := by
  refine ⟨h.ne, by rw [List.length_set]; exact h.len, ?_, ?_⟩
  · rw [List.length_set]
    exact blk_far h.head h.ne u
  · rw [blk_set h.row (i * 3 + j) u, ← flat_set xs i j u y hi hj hy]
    congr 2
    apply Array.ext'
    simp [Array.toList_setIfInBounds]
end

theorem has_in (a g n : Nat) (s : Int) (w : World) (h0 : 0 ≤ s) (h1 : s < n) (hc : w.cell? ⟨a, 0, none⟩ = some (.slice (some ⟨g, 0, none⟩) n n)) :
    Calls Try.prog 38 #[.pointer (some ⟨a, 0, none⟩), .int .i64 s] w fun e w' => e = .returned (.bool true) ∧ w = w' := by
  have hd : decide (0 ≤ s) = true := by simpa using h0
  have hd2 : decide (s < (n : Int)) = true := by simpa using h1
  go_enter Try.func38, Try.ntmps38
  go_wp2
  go_ret
  exact ⟨rfl, rfl⟩
theorem has_out (a g n : Nat) (s : Int) (w : World) (h : ¬ (0 ≤ s ∧ s < n)) (hn : n ≤ 64) (hc : w.cell? ⟨a, 0, none⟩ = some (.slice (some ⟨g, 0, none⟩) n n)) :
    Calls Try.prog 38 #[.pointer (some ⟨a, 0, none⟩), .int .i64 s] w fun e w' => e = .returned (.bool false) ∧ w = w' := by
  by_cases h0 : 0 ≤ s
  · have hd : decide (0 ≤ s) = true := by simpa using h0
    have h1 : ¬ s < n := fun z => h ⟨by omega, z⟩
    clear h
    go_enter Try.func38, Try.ntmps38
    go_wp2
    go_ret
    exact ⟨rfl, rfl⟩
  · have hd : decide (0 ≤ s) = false := by simpa using h0
    have hlt : s < 0 := by omega
    clear h h0
    go_enter Try.func38, Try.ntmps38
    go_wp2
    go_ret
    exact ⟨rfl, rfl⟩

theorem rticket_calls (a g : Nat) (xs : List Lane) (s : Int) (w : World) (h : RTab a g xs w) (hg : ∀ x ∈ xs, 0 ≤ x.given) :
    Calls Try.prog 21 #[.pointer (some ⟨a, 0, none⟩), .int .i64 s] w fun e w' =>
      e = .returned (.tuple #[.int .i64 (ticketF xs s).1.1, .int .i64 (ticketF xs s).1.2]) ∧ RTab a g (ticketF xs s).2 w' ∧ w.grownBy w' (some g) := by
  unfold ticketF
  by_cases hs : laneAt xs s
  · rw [if_pos hs]
    obtain ⟨h0, h1⟩ := hs
    have hi : s.toNat < xs.length := by omega
    have k0 := h.c0 s.toNat hi
    have z0 := h.fz (s.toNat * 3)
    have hgv : 0 ≤ (xs.getD s.toNat L0).given := by
      rw [List.getD_eq_getElem?_getD, List.getElem?_eq_getElem hi]
      exact hg _ (List.getElem_mem hi)
    have hset := h.set s.toNat 0 (.int .i64 ((xs.getD s.toNat L0).given + 1)) { xs.getD s.toNat L0 with given := (xs.getD s.toNat L0).given + 1 } hi (by omega) rfl
    generalize xs.getD s.toNat L0 = x at *
    obtain ⟨xg, xl, xq⟩ := x
    simp only at *
    have HS : Aside0 (RTab a g (xs.set s.toNat ⟨xg + 1, xl, xq⟩) (w.setCell ⟨g, s.toNat * 3, none⟩ (.int .i64 (xg + 1)))) := ⟨hset⟩
    have HT : Aside0 (RTab a g xs w) := ⟨h⟩
    have hd := h.hd
    clear hset h hg
    by_cases hf : xg ≥ 1073741824
    · rw [if_pos hf]
      go_enter Try.func21, Try.ntmps21
      go_wp2_with (go_at_call 38; refine (has_in a g xs.length s _ h0 h1 hd).mono ?_; rintro e w' ⟨rfl, rfl⟩)
      go_ret2
      exact ⟨rfl, HT.out, grown_refl _ _⟩
    · rw [if_neg hf]
      go_enter Try.func21, Try.ntmps21
      go_wp2_with (go_at_call 38; refine (has_in a g xs.length s _ h0 h1 hd).mono ?_; rintro e w' ⟨rfl, rfl⟩)
      (try go_region)
      (try go_wp2)
      go_ret2
      exact ⟨by simp, HS.out, grown_set _ _⟩
  · rw [if_neg hs]
    have hd := h.hd
    have hl := h.len
    have HT : Aside0 (RTab a g xs w) := ⟨h⟩
    clear h hg
    go_enter Try.func21, Try.ntmps21
    go_wp2_with (go_at_call 38; refine (has_out a g xs.length s _ hs hl hd).mono ?_; rintro e w' ⟨rfl, rfl⟩)
    go_ret2
    exact ⟨rfl, HT.out, grown_refl _ _⟩

theorem rserved_calls (a g : Nat) (xs : List Lane) (s ticket : Int) (w : World) (h : RTab a g xs w) :
    Calls Try.prog 22 #[.pointer (some ⟨a, 0, none⟩), .int .i64 s, .int .i64 ticket] w fun e w' =>
      e = .returned (.bool (servedF xs s ticket)) ∧ RTab a g xs w' ∧ w.grownBy w' (some g) := by
  unfold servedF
  by_cases hs : laneAt xs s
  · rw [decide_eq_true hs, Bool.true_and]
    obtain ⟨h0, h1⟩ := hs
    have hi : s.toNat < xs.length := by omega
    have k0 := h.c0 s.toNat hi
    have k1 := h.c1 s.toNat hi
    have hd := h.hd
    have HT : Aside0 (RTab a g xs w) := ⟨h⟩
    clear h
    generalize xs.getD s.toNat L0 = x at *
    obtain ⟨xg, xl, xq⟩ := x
    simp only at *
    by_cases hlt : xl < xg
    · have hlt' : decide (xl < xg) = true := by simpa using hlt
      go_enter Try.func22, Try.ntmps22
      go_wp2_with (go_at_call 38; refine (has_in a g xs.length s _ h0 h1 hd).mono ?_; rintro e w' ⟨rfl, rfl⟩)
      go_quiet (fail)
      go_wp2
      go_ret
      exact ⟨by simp [hlt], HT.out.drewN _, grown_drewN _ _⟩
    · have hlt' : decide (xl < xg) = false := by simpa using hlt
      go_enter Try.func22, Try.ntmps22
      go_wp2_with (go_at_call 38; refine (has_in a g xs.length s _ h0 h1 hd).mono ?_; rintro e w' ⟨rfl, rfl⟩)
      go_quiet (fail)
      go_wp2
      go_ret
      exact ⟨by simp; omega, HT.out.drewN _, grown_drewN _ _⟩
  · rw [decide_eq_false hs, Bool.false_and]
    have hd := h.hd
    have hl := h.len
    have HT : Aside0 (RTab a g xs w) := ⟨h⟩
    clear h
    go_enter Try.func22, Try.ntmps22
    go_wp2_with (go_at_call 38; refine (has_out a g xs.length s _ hs hl hd).mono ?_; rintro e w' ⟨rfl, rfl⟩)
    (try go_quiet (fail))
    (try go_wp2)
    go_ret
    exact ⟨rfl, by first | exact HT.out | exact HT.out.drewN _, by first | exact grown_refl _ _ | exact grown_drewN _ _⟩

theorem rseq_calls (a g : Nat) (xs : List Lane) (s : Int) (w : World) (h : RTab a g xs w) :
    Calls Try.prog 26 #[.pointer (some ⟨a, 0, none⟩), .int .i64 s] w fun e w' =>
      e = .returned (.int .i64 (seqF xs s)) ∧ RTab a g xs w' ∧ w.grownBy w' (some g) := by
  unfold seqF
  by_cases hs : laneAt xs s
  · rw [if_pos hs]
    obtain ⟨h0, h1⟩ := hs
    have hi : s.toNat < xs.length := by omega
    have k0 := h.c0 s.toNat hi
    have k1 := h.c1 s.toNat hi
    have k2 := h.c2 s.toNat hi
    have hd := h.hd
    have HT : Aside0 (RTab a g xs w) := ⟨h⟩
    clear h
    generalize xs.getD s.toNat L0 = x at *
    obtain ⟨xg, xl, xq⟩ := x
    simp only at *
    go_enter Try.func26, Try.ntmps26
    go_wp2_with (go_at_call 38; refine (has_in a g xs.length s _ h0 h1 hd).mono ?_; rintro e w' ⟨rfl, rfl⟩)
    (try go_quiet (fail))
    (try go_wp2)
    go_ret
    exact ⟨rfl, by first | exact HT.out | exact HT.out.drewN _, by first | exact grown_refl _ _ | exact grown_drewN _ _⟩
  · rw [if_neg hs]
    have hd := h.hd
    have hl := h.len
    have HT : Aside0 (RTab a g xs w) := ⟨h⟩
    clear h
    go_enter Try.func26, Try.ntmps26
    go_wp2_with (go_at_call 38; refine (has_out a g xs.length s _ hs hl hd).mono ?_; rintro e w' ⟨rfl, rfl⟩)
    go_ret
    exact ⟨rfl, HT.out, grown_refl _ _⟩

theorem rwaiting_calls (a g : Nat) (xs : List Lane) (s : Int) (w : World) (h : RTab a g xs w) :
    Calls Try.prog 27 #[.pointer (some ⟨a, 0, none⟩), .int .i64 s] w fun e w' =>
      e = .returned (.int .i64 (waitingF xs s)) ∧ RTab a g xs w' ∧ w.grownBy w' (some g) := by
  unfold waitingF
  by_cases hs : laneAt xs s
  · rw [if_pos hs]
    obtain ⟨h0, h1⟩ := hs
    have hi : s.toNat < xs.length := by omega
    have k0 := h.c0 s.toNat hi
    have k1 := h.c1 s.toNat hi
    have k2 := h.c2 s.toNat hi
    have hd := h.hd
    have HT : Aside0 (RTab a g xs w) := ⟨h⟩
    clear h
    generalize xs.getD s.toNat L0 = x at *
    obtain ⟨xg, xl, xq⟩ := x
    simp only at *
    go_enter Try.func27, Try.ntmps27
    go_wp2_with (go_at_call 38; refine (has_in a g xs.length s _ h0 h1 hd).mono ?_; rintro e w' ⟨rfl, rfl⟩)
    (try go_quiet (fail))
    (try go_wp2)
    go_ret
    exact ⟨rfl, by first | exact HT.out | exact HT.out.drewN _, by first | exact grown_refl _ _ | exact grown_drewN _ _⟩
  · rw [if_neg hs]
    have hd := h.hd
    have hl := h.len
    have HT : Aside0 (RTab a g xs w) := ⟨h⟩
    clear h
    go_enter Try.func27, Try.ntmps27
    go_wp2_with (go_at_call 38; refine (has_out a g xs.length s _ hs hl hd).mono ?_; rintro e w' ⟨rfl, rfl⟩)
    go_ret
    exact ⟨rfl, HT.out, grown_refl _ _⟩

theorem rleave_calls (a g : Nat) (xs : List Lane) (s ticket : Int) (w : World) (h : RTab a g xs w) (hsq : ∀ x ∈ xs, 0 ≤ x.seq) :
    Calls Try.prog 23 #[.pointer (some ⟨a, 0, none⟩), .int .i64 s, .int .i64 ticket] w fun e w' =>
      e = .returned (.int .i64 (turnF 0 leaveUp xs s ticket).1) ∧ RTab a g (turnF 0 leaveUp xs s ticket).2 w' ∧ w.grownBy w' (some g) := by
  unfold turnF
  by_cases hs : laneAt xs s
  · rw [if_pos hs]
    have hsv : servedF xs s ticket = (decide ((xs.getD s.toNat L0).left < (xs.getD s.toNat L0).given) && ticket == (xs.getD s.toNat L0).left) := by
      unfold servedF
      rw [decide_eq_true hs, Bool.true_and]
    obtain ⟨h0, h1⟩ := hs
    have hi : s.toNat < xs.length := by omega
    have hq : 0 ≤ (xs.getD s.toNat L0).seq := by
      rw [List.getD_eq_getElem?_getD, List.getElem?_eq_getElem hi]
      exact hsq _ (List.getElem_mem hi)
    have HT : Aside0 (RTab a g xs w) := ⟨h⟩
    have hd := h.hd
    have HSV := Aside0.mk hsv
    clear h hsv
    have SV : ∀ b w, Aside0 (b = servedF xs s ticket) → RTab a g xs w → Calls Try.prog 22 #[.pointer (some ⟨a, 0, none⟩), .int .i64 s, .int .i64 ticket] w fun e w' => e = .returned (.bool b) ∧ RTab a g xs w' ∧ w.grownBy w' (some g) := by
      intro b w hb ht
      rw [hb.out]
      exact rserved_calls a g xs s ticket w ht
    have HV := Aside0.mk SV
    clear SV
    generalize hx : xs.getD s.toNat L0 = x at *
    have HX := Aside0.mk hx
    clear hx
    obtain ⟨xg, xl, xq⟩ := x
    simp only at *
    by_cases hb : (decide (xl < xg) && ticket == xl) = true
    · rw [if_pos hb]
      have HB : Aside0 (true = servedF xs s ticket) := ⟨(HSV.out.trans hb).symm⟩
      clear hb HSV
      by_cases ho : Int.tmod xq 2 = 0
      · rw [if_pos ho]
        have ho' : (xq % 2 == 1) = false := by
          have := Int.tmod_eq_emod_of_nonneg (b := 2) hq
          have h2 : xq % 2 = 0 := by omega
          rw [h2]
          rfl
        clear ho
        go_enter Try.func23, Try.ntmps23
        go_wp2_with (go_at_call 38; refine (has_in a g xs.length s _ h0 h1 hd).mono ?_; rintro e w' ⟨rfl, rfl⟩)
        refine (HV.out true _ HB HT.out).mono ?_
        rintro e w1 ⟨rfl, ht1, hg1⟩
        have k0 := ht1.c0 s.toNat hi
        have k1 := ht1.c1 s.toNat hi
        have k2 := ht1.c2 s.toNat hi
        have z0 := ht1.fz (s.toNat * 3 + 1)
        have hd1 := ht1.hd
        rw [HX.out] at k0 k1 k2
        simp only at k0 k1 k2
        have HS := Aside0.mk (ht1.set s.toNat 1 (.int .i64 (wrap64 (xl + 1))) (leaveUp ⟨xg, xl, xq⟩) hi (by omega) (by rw [HX.out]; rfl))
        have HG := Aside0.mk hg1
        clear ht1 hg1 HV HB HT
        go_wp2
        (try go_region)
        (try go_wp2)
        go_ret
        exact ⟨rfl, by first | exact HS.out | exact HS.out.moved rfl rfl, by first | exact grown_trans HG.out (grown_set _ _) | exact grown_trans (grown_trans HG.out (grown_set _ _)) ⟨rfl, rfl, rfl, Nat.le_refl _, fun _ _ _ => rfl⟩⟩
      · rw [if_neg ho]
        have ho' : (xq % 2 == 1) = true := by
          have := Int.tmod_eq_emod_of_nonneg (b := 2) hq
          have h2 : xq % 2 = 1 := by omega
          rw [h2]
          rfl
        clear ho
        go_enter Try.func23, Try.ntmps23
        go_wp2_with (go_at_call 38; refine (has_in a g xs.length s _ h0 h1 hd).mono ?_; rintro e w' ⟨rfl, rfl⟩)
        refine (HV.out true _ HB HT.out).mono ?_
        rintro e w1 ⟨rfl, ht1, hg1⟩
        have k2 := ht1.c2 s.toNat hi
        have hd1 := ht1.hd
        rw [HX.out] at k2
        simp only at k2
        have HS := Aside0.mk ht1
        have HG := Aside0.mk hg1
        clear ht1 hg1 HV HB HT
        go_wp2
        go_ret
        exact ⟨rfl, HS.out, HG.out⟩
    · rw [if_neg hb]
      have HB : Aside0 (false = servedF xs s ticket) := ⟨(HSV.out.trans (Bool.eq_false_iff.2 hb)).symm⟩
      clear hb HSV
      go_enter Try.func23, Try.ntmps23
      go_wp2_with (go_at_call 38; refine (has_in a g xs.length s _ h0 h1 hd).mono ?_; rintro e w' ⟨rfl, rfl⟩)
      refine (HV.out false _ HB HT.out).mono ?_
      rintro e w1 ⟨rfl, ht1, hg1⟩
      have HS := Aside0.mk ht1
      have HG := Aside0.mk hg1
      clear ht1 hg1 HV HB HT
      go_wp2
      go_ret
      exact ⟨rfl, HS.out, HG.out⟩
  · rw [if_neg hs]
    have hd := h.hd
    have hl := h.len
    have HT : Aside0 (RTab a g xs w) := ⟨h⟩
    clear h hsq
    go_enter Try.func23, Try.ntmps23
    go_wp2_with (go_at_call 38; refine (has_out a g xs.length s _ hs hl hd).mono ?_; rintro e w' ⟨rfl, rfl⟩)
    go_ret
    exact ⟨rfl, HT.out, grown_refl _ _⟩

theorem rturn_odd (a g : Nat) (xs : List Lane) (s ticket : Int) (w : World) (h : RTab a g xs w) :
    Calls Try.prog 39 #[.pointer (some ⟨a, 0, none⟩), .int .i64 s, .int .i64 ticket, .int .i64 0] w fun e w' =>
      e = .returned (.int .i64 (turnF 0 seqUp xs s ticket).1) ∧ RTab a g (turnF 0 seqUp xs s ticket).2 w' ∧ w.grownBy w' (some g) := by
  unfold turnF
  by_cases hs : laneAt xs s
  · rw [if_pos hs]
    have hsv : servedF xs s ticket = (decide ((xs.getD s.toNat L0).left < (xs.getD s.toNat L0).given) && ticket == (xs.getD s.toNat L0).left) := by
      unfold servedF
      rw [decide_eq_true hs, Bool.true_and]
    obtain ⟨h0, h1⟩ := hs
    have hi : s.toNat < xs.length := by omega
    have HT : Aside0 (RTab a g xs w) := ⟨h⟩
    have hd := h.hd
    have HSV := Aside0.mk hsv
    clear h hsv
    have SV : ∀ b w, Aside0 (b = servedF xs s ticket) → RTab a g xs w → Calls Try.prog 22 #[.pointer (some ⟨a, 0, none⟩), .int .i64 s, .int .i64 ticket] w fun e w' => e = .returned (.bool b) ∧ RTab a g xs w' ∧ w.grownBy w' (some g) := by
      intro b w hb ht
      rw [hb.out]
      exact rserved_calls a g xs s ticket w ht
    have HV := Aside0.mk SV
    clear SV
    generalize hx : xs.getD s.toNat L0 = x at *
    have HX := Aside0.mk hx
    clear hx
    obtain ⟨xg, xl, xq⟩ := x
    simp only at *
    by_cases hb : (decide (xl < xg) && ticket == xl) = true
    · rw [if_pos hb]
      have HB : Aside0 (true = servedF xs s ticket) := ⟨(HSV.out.trans hb).symm⟩
      clear hb HSV
      by_cases ho : Int.tmod xq 2 = 0
      · rw [if_pos ho]
        have ho' : (Int.tmod xq 2 != 0) = false := by rw [ho]; rfl
        clear ho
        go_enter Try.func39, Try.ntmps39
        go_wp2_with (go_at_call 38; refine (has_in a g xs.length s _ h0 h1 hd).mono ?_; rintro e w' ⟨rfl, rfl⟩)
        refine (HV.out true _ HB HT.out).mono ?_
        rintro e w1 ⟨rfl, ht1, hg1⟩
        have k0 := ht1.c0 s.toNat hi
        have k1 := ht1.c1 s.toNat hi
        have k2 := ht1.c2 s.toNat hi
        have z0 := ht1.fz (s.toNat * 3 + 2)
        have hd1 := ht1.hd
        rw [HX.out] at k0 k1 k2
        simp only at k0 k1 k2
        have HS := Aside0.mk (ht1.set s.toNat 2 (.int .i64 (wrap64 (xq + 1))) (seqUp ⟨xg, xl, xq⟩) hi (by omega) (by rw [HX.out]; rfl))
        have HG := Aside0.mk hg1
        clear ht1 hg1 HV HB HT
        go_wp2
        (try go_region)
        (try go_wp2)
        go_ret
        exact ⟨rfl, by first | exact HS.out | exact HS.out.moved rfl rfl, by first | exact grown_trans HG.out (grown_set _ _) | exact grown_trans (grown_trans HG.out (grown_set _ _)) ⟨rfl, rfl, rfl, Nat.le_refl _, fun _ _ _ => rfl⟩⟩
      · rw [if_neg ho]
        have ho' : (Int.tmod xq 2 != 0) = true := by simp [ho]
        clear ho
        go_enter Try.func39, Try.ntmps39
        go_wp2_with (go_at_call 38; refine (has_in a g xs.length s _ h0 h1 hd).mono ?_; rintro e w' ⟨rfl, rfl⟩)
        refine (HV.out true _ HB HT.out).mono ?_
        rintro e w1 ⟨rfl, ht1, hg1⟩
        have k2 := ht1.c2 s.toNat hi
        have hd1 := ht1.hd
        rw [HX.out] at k2
        simp only at k2
        have HS := Aside0.mk ht1
        have HG := Aside0.mk hg1
        clear ht1 hg1 HV HB HT
        go_wp2
        go_ret
        exact ⟨rfl, HS.out, HG.out⟩
    · rw [if_neg hb]
      have HB : Aside0 (false = servedF xs s ticket) := ⟨(HSV.out.trans (Bool.eq_false_iff.2 hb)).symm⟩
      clear hb HSV
      go_enter Try.func39, Try.ntmps39
      go_wp2_with (go_at_call 38; refine (has_in a g xs.length s _ h0 h1 hd).mono ?_; rintro e w' ⟨rfl, rfl⟩)
      refine (HV.out false _ HB HT.out).mono ?_
      rintro e w1 ⟨rfl, ht1, hg1⟩
      have HS := Aside0.mk ht1
      have HG := Aside0.mk hg1
      clear ht1 hg1 HV HB HT
      go_wp2
      go_ret
      exact ⟨rfl, HS.out, HG.out⟩
  · rw [if_neg hs]
    have hd := h.hd
    have hl := h.len
    have HT : Aside0 (RTab a g xs w) := ⟨h⟩
    clear h
    go_enter Try.func39, Try.ntmps39
    go_wp2_with (go_at_call 38; refine (has_out a g xs.length s _ hs hl hd).mono ?_; rintro e w' ⟨rfl, rfl⟩)
    go_ret
    exact ⟨rfl, HT.out, grown_refl _ _⟩

theorem rodd_calls (a g : Nat) (xs : List Lane) (s ticket : Int) (w : World) (h : RTab a g xs w) :
    Calls Try.prog 24 #[.pointer (some ⟨a, 0, none⟩), .int .i64 s, .int .i64 ticket] w fun e w' =>
      e = .returned (.int .i64 (turnF 0 seqUp xs s ticket).1) ∧ RTab a g (turnF 0 seqUp xs s ticket).2 w' ∧ w.grownBy w' (some g) := by
  have HT : Aside0 (RTab a g xs w) := ⟨h⟩
  clear h
  obtain ⟨r1, r2, hr⟩ : ∃ r1 r2, turnF 0 seqUp xs s ticket = (r1, r2) := ⟨_, _, rfl⟩
  rw [hr]
  have HR := Aside0.mk hr
  clear hr
  go_enter Try.func24, Try.ntmps24
  go_wp2_with fail
  refine (rturn_odd a g xs s ticket _ HT.out).mono ?_
  rw [HR.out]
  rintro e w' ⟨rfl, hq1, hq2⟩
  have H1 := Aside0.mk hq1
  have H2 := Aside0.mk hq2
  clear hq1 hq2 HT
  go_wp2
  go_ret
  exact ⟨rfl, H1.out, H2.out⟩

theorem rturn_even (a g : Nat) (xs : List Lane) (s ticket : Int) (w : World) (h : RTab a g xs w) :
    Calls Try.prog 39 #[.pointer (some ⟨a, 0, none⟩), .int .i64 s, .int .i64 ticket, .int .i64 1] w fun e w' =>
      e = .returned (.int .i64 (turnF 1 seqUp xs s ticket).1) ∧ RTab a g (turnF 1 seqUp xs s ticket).2 w' ∧ w.grownBy w' (some g) := by
  unfold turnF
  by_cases hs : laneAt xs s
  · rw [if_pos hs]
    have hsv : servedF xs s ticket = (decide ((xs.getD s.toNat L0).left < (xs.getD s.toNat L0).given) && ticket == (xs.getD s.toNat L0).left) := by
      unfold servedF
      rw [decide_eq_true hs, Bool.true_and]
    obtain ⟨h0, h1⟩ := hs
    have hi : s.toNat < xs.length := by omega
    have HT : Aside0 (RTab a g xs w) := ⟨h⟩
    have hd := h.hd
    have HSV := Aside0.mk hsv
    clear h hsv
    have SV : ∀ b w, Aside0 (b = servedF xs s ticket) → RTab a g xs w → Calls Try.prog 22 #[.pointer (some ⟨a, 0, none⟩), .int .i64 s, .int .i64 ticket] w fun e w' => e = .returned (.bool b) ∧ RTab a g xs w' ∧ w.grownBy w' (some g) := by
      intro b w hb ht
      rw [hb.out]
      exact rserved_calls a g xs s ticket w ht
    have HV := Aside0.mk SV
    clear SV
    generalize hx : xs.getD s.toNat L0 = x at *
    have HX := Aside0.mk hx
    clear hx
    obtain ⟨xg, xl, xq⟩ := x
    simp only at *
    by_cases hb : (decide (xl < xg) && ticket == xl) = true
    · rw [if_pos hb]
      have HB : Aside0 (true = servedF xs s ticket) := ⟨(HSV.out.trans hb).symm⟩
      clear hb HSV
      by_cases ho : Int.tmod xq 2 = 1
      · rw [if_pos ho]
        have ho' : (Int.tmod xq 2 != 1) = false := by rw [ho]; rfl
        clear ho
        go_enter Try.func39, Try.ntmps39
        go_wp2_with (go_at_call 38; refine (has_in a g xs.length s _ h0 h1 hd).mono ?_; rintro e w' ⟨rfl, rfl⟩)
        refine (HV.out true _ HB HT.out).mono ?_
        rintro e w1 ⟨rfl, ht1, hg1⟩
        have k0 := ht1.c0 s.toNat hi
        have k1 := ht1.c1 s.toNat hi
        have k2 := ht1.c2 s.toNat hi
        have z0 := ht1.fz (s.toNat * 3 + 2)
        have hd1 := ht1.hd
        rw [HX.out] at k0 k1 k2
        simp only at k0 k1 k2
        have HS := Aside0.mk (ht1.set s.toNat 2 (.int .i64 (wrap64 (xq + 1))) (seqUp ⟨xg, xl, xq⟩) hi (by omega) (by rw [HX.out]; rfl))
        have HG := Aside0.mk hg1
        clear ht1 hg1 HV HB HT
        go_wp2
        (try go_region)
        (try go_wp2)
        go_ret
        exact ⟨rfl, by first | exact HS.out | exact HS.out.moved rfl rfl, by first | exact grown_trans HG.out (grown_set _ _) | exact grown_trans (grown_trans HG.out (grown_set _ _)) ⟨rfl, rfl, rfl, Nat.le_refl _, fun _ _ _ => rfl⟩⟩
      · rw [if_neg ho]
        have ho' : (Int.tmod xq 2 != 1) = true := by simp [ho]
        clear ho
        go_enter Try.func39, Try.ntmps39
        go_wp2_with (go_at_call 38; refine (has_in a g xs.length s _ h0 h1 hd).mono ?_; rintro e w' ⟨rfl, rfl⟩)
        refine (HV.out true _ HB HT.out).mono ?_
        rintro e w1 ⟨rfl, ht1, hg1⟩
        have k2 := ht1.c2 s.toNat hi
        have hd1 := ht1.hd
        rw [HX.out] at k2
        simp only at k2
        have HS := Aside0.mk ht1
        have HG := Aside0.mk hg1
        clear ht1 hg1 HV HB HT
        go_wp2
        go_ret
        exact ⟨rfl, HS.out, HG.out⟩
    · rw [if_neg hb]
      have HB : Aside0 (false = servedF xs s ticket) := ⟨(HSV.out.trans (Bool.eq_false_iff.2 hb)).symm⟩
      clear hb HSV
      go_enter Try.func39, Try.ntmps39
      go_wp2_with (go_at_call 38; refine (has_in a g xs.length s _ h0 h1 hd).mono ?_; rintro e w' ⟨rfl, rfl⟩)
      refine (HV.out false _ HB HT.out).mono ?_
      rintro e w1 ⟨rfl, ht1, hg1⟩
      have HS := Aside0.mk ht1
      have HG := Aside0.mk hg1
      clear ht1 hg1 HV HB HT
      go_wp2
      go_ret
      exact ⟨rfl, HS.out, HG.out⟩
  · rw [if_neg hs]
    have hd := h.hd
    have hl := h.len
    have HT : Aside0 (RTab a g xs w) := ⟨h⟩
    clear h
    go_enter Try.func39, Try.ntmps39
    go_wp2_with (go_at_call 38; refine (has_out a g xs.length s _ hs hl hd).mono ?_; rintro e w' ⟨rfl, rfl⟩)
    go_ret
    exact ⟨rfl, HT.out, grown_refl _ _⟩

theorem reven_calls (a g : Nat) (xs : List Lane) (s ticket : Int) (w : World) (h : RTab a g xs w) :
    Calls Try.prog 25 #[.pointer (some ⟨a, 0, none⟩), .int .i64 s, .int .i64 ticket] w fun e w' =>
      e = .returned (.int .i64 (turnF 1 seqUp xs s ticket).1) ∧ RTab a g (turnF 1 seqUp xs s ticket).2 w' ∧ w.grownBy w' (some g) := by
  have HT : Aside0 (RTab a g xs w) := ⟨h⟩
  clear h
  obtain ⟨r1, r2, hr⟩ : ∃ r1 r2, turnF 1 seqUp xs s ticket = (r1, r2) := ⟨_, _, rfl⟩
  rw [hr]
  have HR := Aside0.mk hr
  clear hr
  go_enter Try.func25, Try.ntmps25
  go_wp2_with fail
  refine (rturn_even a g xs s ticket _ HT.out).mono ?_
  rw [HR.out]
  rintro e w' ⟨rfl, hq1, hq2⟩
  have H1 := Aside0.mk hq1
  have H2 := Aside0.mk hq2
  clear hq1 hq2 HT
  go_wp2
  go_ret
  exact ⟨rfl, H1.out, H2.out⟩

theorem rmakeLanes (n : Nat) (hn : n ≤ 64) (w : World) : (Instr.makeSlice 63 (.int .i64 n) (.int .i64 n)).run Try.prog w = .ok (.slice (some ⟨w.heap.size, 0, none⟩) n n) (w.alloc (.cells (flat (List.replicate n L0)).toArray 67 (0, 0))) := by
  have infoL : (Try.prog.info? 67).map (fun i => (i.zero, i.size, i.bytes)) = some (some (.agg #[.int .i64 0, .int .i64 0, .int .i64 0]), 3, 24) := by kernel_rfl
  obtain ⟨i0, hi, hz0, hz1, hz2⟩ := info_parts infoL
  have := run_make (P := Try.prog) w 63 67 i0 (.agg #[.int .i64 0, .int .i64 0, .int .i64 0]) Try.underlying63 hi hz0 .i64 .i64 n n (by omega) (by omega) (by rw [hz2]; omega) (by omega)
  rw [this, hz1]
  show Result.ok _ (w.alloc (.cells (madeCells _ ((n : Int).toNat * 3)) _)) = _
  rw [Int.toNat_natCast, madeLanes]

theorem rnew_ok (n : Nat) (h1 : 1 ≤ n) (h2 : n ≤ 64) (w : World) :
    Calls Try.prog 18 #[.int .i64 n] w fun e w' =>
      e = .returned (.tuple #[.pointer (some ⟨w.heap.size + 1, 0, none⟩), .int .i64 0]) ∧ RTab (w.heap.size + 1) w.heap.size (List.replicate n L0) w' ∧ Below w.heap.size w w' := by
  have hmk := rmakeLanes n h2
  go_enter Try.func18, Try.ntmps18
  go_wp2
  go_ret2
  refine ⟨rfl, ⟨by omega, by rw [List.length_replicate]; exact h2, ?_, ?_⟩, ?_⟩
  · rw [List.length_replicate]
    show ((w.heap.push _).push _)[w.heap.size + 1]? = _
    simp [Array.getElem?_push, Array.getElem_push]
  · show ((w.heap.push _).push _)[w.heap.size]? = _
    simp [Array.getElem?_push, Array.getElem_push]
  · repeat (first | exact Below.refl _ _ | apply below_alloc)

theorem rnew_bad (n : Int) (h : n < 1 ∨ 64 < n) (w : World) :
    Calls Try.prog 18 #[.int .i64 n] w fun e w' => e = .returned (.tuple #[.pointer none, .int .i64 2]) ∧ w = w' := by
  rcases h with h | h
  · go_enter Try.func18, Try.ntmps18
    go_wp2
    go_ret2
    exact ⟨rfl, rfl⟩
  · have h0 : ¬ n < 1 := by omega
    go_enter Try.func18, Try.ntmps18
    go_wp2
    go_ret2
    exact ⟨rfl, rfl⟩

theorem rstripes_calls (a g : Nat) (xs : List Lane) (w : World) (h : RTab a g xs w) :
    Calls Try.prog 20 #[.pointer (some ⟨a, 0, none⟩)] w fun e w' => e = .returned (.int .i64 xs.length) ∧ w = w' := by
  have hd := h.hd
  have hl := h.len
  clear h
  go_enter Try.func20, Try.ntmps20
  go_wp2
  go_ret
  exact ⟨rfl, rfl⟩
end Go.Proofs.Ytgklgicfgpemgaa.Lk
