/- Stripes: a table in memory, and the contracts of the package's functions over it. No condition beside the table's size. -/
import Derived.Test.YtgklgicfgpemgaaLkWorks
namespace Go.Proofs.Ytgklgicfgpemgaa.Lk
open Go.RowKit Go.Proofs.YtgklgicfgpemgaaW.PrintWords
set_option linter.unusedVariables false
set_option linter.unusedSimpArgs false

structure Lane where
  given : Int
  left : Int
  seq : Int
def L0 : Lane := ⟨0, 0, 0⟩
def laneCells (x : Lane) : List Value := [.int .i64 x.given, .int .i64 x.left, .int .i64 x.seq]
def flat (xs : List Lane) : List Value := xs.flatMap laneCells

theorem flat_len : ∀ xs : List Lane, (flat xs).length = xs.length * 3
  | [] => rfl
  | x :: xs => by
    show (laneCells x ++ flat xs).length = _
    rw [List.length_append, flat_len xs]
    simp [laneCells]
    omega

theorem flat_get : ∀ (xs : List Lane) (i j : Nat), i < xs.length → j < 3 → (flat xs)[i * 3 + j]? = (laneCells (xs.getD i L0))[j]?
  | x :: xs, 0, j, _, hj => by
    show (laneCells x ++ flat xs)[0 * 3 + j]? = _
    rw [List.getElem?_append_left (by simp [laneCells]; omega)]
    simp
  | x :: xs, i + 1, j, hi, hj => by
    show (laneCells x ++ flat xs)[(i + 1) * 3 + j]? = _
    rw [List.getElem?_append_right (by simp [laneCells]; omega)]
    have e : (i + 1) * 3 + j - (laneCells x).length = i * 3 + j := by simp [laneCells]; omega
    rw [e, flat_get xs i j (by simpa using hi) hj]
    simp

theorem flat_set : ∀ (xs : List Lane) (i j : Nat) (u : Value) (y : Lane), i < xs.length → j < 3 → laneCells y = (laneCells (xs.getD i L0)).set j u → (flat xs).set (i * 3 + j) u = flat (xs.set i y)
  | x :: xs, 0, j, u, y, _, hj, h => by
    show (laneCells x ++ flat xs).set (0 * 3 + j) u = laneCells y ++ flat xs
    have h' : laneCells y = (laneCells x).set j u := by simpa using h
    rw [List.set_append_left _ _ (by simp [laneCells]; omega), h']
    simp
  | x :: xs, i + 1, j, u, y, hi, hj, h => by
    show (laneCells x ++ flat xs).set ((i + 1) * 3 + j) u = laneCells x ++ flat (xs.set i y)
    have e : (i + 1) * 3 + j - (laneCells x).length = i * 3 + j := by simp [laneCells]; omega
    rw [List.set_append_right _ _ (by simp [laneCells]; omega), e, flat_set xs i j u y (by simpa using hi) hj (by simpa using h)]

/-- A table at the block a over the row at the block g. -/
structure Tab (a g : Nat) (xs : List Lane) (w : World) : Prop where
  ne : a ≠ g
  len : xs.length ≤ 64
  head : w.heap[a]? = some (.cells #[.slice (some ⟨g, 0, none⟩) xs.length xs.length] 56 (0, 0))
  row : w.heap[g]? = some (.cells (flat xs).toArray 60 (0, 0))

section
variable {a g : Nat} {xs : List Lane} {w w' : World}
theorem Tab.hd (h : Tab a g xs w) : w.cell? ⟨a, 0, none⟩ = some (.slice (some ⟨g, 0, none⟩) xs.length xs.length) := (blk_cell h.head 0).trans rfl
theorem Tab.c0 (h : Tab a g xs w) (i : Nat) (hi : i < xs.length) : w.cell? ⟨g, i * 3, none⟩ = some (.int .i64 (xs.getD i L0).given) := by
  have := (blk_cell h.row (i * 3 + 0)).trans (by simpa using flat_get xs i 0 hi (by omega))
  simpa [laneCells] using this
theorem Tab.c1 (h : Tab a g xs w) (i : Nat) (hi : i < xs.length) : w.cell? ⟨g, i * 3 + 1, none⟩ = some (.int .i64 (xs.getD i L0).left) := by
  have := (blk_cell h.row (i * 3 + 1)).trans (by simpa using flat_get xs i 1 hi (by omega))
  simpa [laneCells] using this
theorem Tab.c2 (h : Tab a g xs w) (i : Nat) (hi : i < xs.length) : w.cell? ⟨g, i * 3 + 2, none⟩ = some (.int .i64 (xs.getD i L0).seq) := by
  have := (blk_cell h.row (i * 3 + 2)).trans (by simpa using flat_get xs i 2 hi (by omega))
  simpa [laneCells] using this
theorem Tab.fz (h : Tab a g xs w) (i : Nat) : w.frozen? ⟨g, i, none⟩ = false := blk_frozen h.row i
theorem Tab.drewN (h : Tab a g xs w) (n : Nat) : Tab a g xs (w.drewN n) := ⟨h.ne, h.len, h.head, h.row⟩
theorem Tab.moved (h : Tab a g xs w) (ha : w'.heap[a]? = w.heap[a]?) (hg : w'.heap[g]? = w.heap[g]?) : Tab a g xs w' := ⟨h.ne, h.len, ha.trans h.head, hg.trans h.row⟩
theorem Tab.set (h : Tab a g xs w) (i j : Nat) (u : Value) (y : Lane) (hi : i < xs.length) (hj : j < 3) (hy : laneCells y = (laneCells (xs.getD i L0)).set j u) : Tab a g (xs.set i y) (w.setCell ⟨g, i * 3 + j, none⟩ u) := by
  refine ⟨h.ne, by rw [List.length_set]; exact h.len, ?_, ?_⟩
  · rw [List.length_set]
    exact blk_far h.head h.ne u
  · rw [blk_set h.row (i * 3 + j) u, ← flat_set xs i j u y hi hj hy]
    congr 2
    apply Array.ext'
    simp [Array.toList_setIfInBounds]
end

theorem grown_set {w : World} {g : Nat} (o : Nat) (u : Value) : w.grownBy (w.setCell ⟨g, o, none⟩ u) (some g) :=
  ⟨rfl, rfl, rfl, Nat.le_of_eq (World.size_setCell _ _ _).symm, fun k hk hne => Below.heap_setCell w _ u k (fun e => hne (by rw [e]))⟩
theorem grown_drewN {w : World} (n : Nat) (r : Option Nat) : w.grownBy (w.drewN n) r := ⟨rfl, rfl, rfl, Nat.le_refl _, fun _ _ _ => rfl⟩
theorem grown_refl (w : World) (r : Option Nat) : w.grownBy w r := ⟨rfl, rfl, rfl, Nat.le_refl _, fun _ _ _ => rfl⟩
theorem grown_trans {w w1 w2 : World} {r : Option Nat} (h : w.grownBy w1 r) (k : w1.grownBy w2 r) : w.grownBy w2 r :=
  ⟨k.os.trans h.os, k.tape.trans h.tape, k.output.trans h.output, Nat.le_trans h.size k.size, fun i hi hne => (k.block i (Nat.lt_of_lt_of_le hi h.size) hne).trans (h.block i hi hne)⟩

/-- The stripe of a number, if there is one. -/
def laneAt (xs : List Lane) (s : Int) : Prop := 0 ≤ s ∧ s < xs.length
instance (xs : List Lane) (s : Int) : Decidable (laneAt xs s) := by unfold laneAt; infer_instance

theorem at_nil (s : Int) (w : World) :
    Calls Try.prog 32 #[.pointer none, .int .i64 s] w fun e w' => e = .returned (.pointer none) ∧ w = w' := by
  go_enter Try.func32, Try.ntmps32
  go_wp2
  go_ret
  exact ⟨rfl, rfl⟩

theorem at_in (a g n : Nat) (s : Int) (w : World) (h0 : 0 ≤ s) (h1 : s < n) (hc : w.cell? ⟨a, 0, none⟩ = some (.slice (some ⟨g, 0, none⟩) n n)) :
    Calls Try.prog 32 #[.pointer (some ⟨a, 0, none⟩), .int .i64 s] w fun e w' => e = .returned (.pointer (some ⟨g, s.toNat * 3, none⟩)) ∧ w = w' := by
  go_enter Try.func32, Try.ntmps32
  go_wp2
  go_ret
  exact ⟨rfl, rfl⟩

theorem at_out (a g n : Nat) (s : Int) (w : World) (h : ¬ (0 ≤ s ∧ s < n)) (hn : n ≤ 64) (hc : w.cell? ⟨a, 0, none⟩ = some (.slice (some ⟨g, 0, none⟩) n n)) :
    Calls Try.prog 32 #[.pointer (some ⟨a, 0, none⟩), .int .i64 s] w fun e w' => e = .returned (.pointer none) ∧ w = w' := by
  by_cases h0 : s < 0
  · have hd : decide (s < 0) = true := by simpa using h0
    go_enter Try.func32, Try.ntmps32
    go_wp2
    go_ret
    exact ⟨rfl, rfl⟩
  · have hd : decide (s < 0) = false := by simpa using h0
    have h1 : ¬ s < n := fun z => h ⟨by omega, z⟩
    clear h
    go_enter Try.func32, Try.ntmps32
    go_wp2
    go_ret
    exact ⟨rfl, rfl⟩

theorem serves_any (g o : Nat) (given left t : Int) (w : World) (h0 : w.cell? ⟨g, o, none⟩ = some (.int .i64 given)) (h1 : w.cell? ⟨g, o + 1, none⟩ = some (.int .i64 left)) :
    Calls Try.prog 33 #[.pointer (some ⟨g, o, none⟩), .int .i64 t] w fun e w' => e = .returned (.bool (decide (left < given) && t == left)) ∧ ∃ n, w' = w.drewN n := by
  by_cases h : left < given
  · have hd : decide (left < given) = true := by simpa using h
    go_enter Try.func33, Try.ntmps33
    go_wp2
    go_quiet (fail)
    go_wp2
    go_ret
    exact ⟨by simp [h], _, rfl⟩
  · have hd : decide (left < given) = false := by simpa using h
    go_enter Try.func33, Try.ntmps33
    go_wp2
    go_quiet (fail)
    go_wp2
    go_ret
    exact ⟨by simp; omega, _, rfl⟩

/-! ### Ticket -/
def ticketF (xs : List Lane) (s : Int) : (Int × Int) × List Lane :=
  if laneAt xs s then
    (if (xs.getD s.toNat L0).given ≥ 1073741824 then ((0, 5), xs) else (((xs.getD s.toNat L0).given, 0), xs.set s.toNat { xs.getD s.toNat L0 with given := (xs.getD s.toNat L0).given + 1 }))
  else ((0, 80), xs)

theorem ticket_calls (a g : Nat) (xs : List Lane) (s : Int) (w : World) (h : Tab a g xs w) (hg : ∀ x ∈ xs, 0 ≤ x.given) :
    Calls Try.prog 11 #[.pointer (some ⟨a, 0, none⟩), .int .i64 s] w fun e w' =>
      e = .returned (.tuple #[.int .i64 (ticketF xs s).1.1, .int .i64 (ticketF xs s).1.2]) ∧ Tab a g (ticketF xs s).2 w' ∧ w.grownBy w' (some g) := by
  unfold ticketF
  by_cases hs : laneAt xs s
  · rw [if_pos hs]
    obtain ⟨h0, h1⟩ := hs
    have hi : s.toNat < xs.length := by omega
    have k0 := h.c0 s.toNat hi
    have z0 := h.fz (s.toNat * 3)
    have hgv : 0 ≤ (xs.getD s.toNat L0).given := by
      rw [List.getD_eq_getElem?_getD, List.getElem?_eq_getElem hi]
      exact hg _ (List.getElem_mem hi)
    have hset := h.set s.toNat 0 (.int .i64 ((xs.getD s.toNat L0).given + 1)) { xs.getD s.toNat L0 with given := (xs.getD s.toNat L0).given + 1 } hi (by omega) rfl
    generalize xs.getD s.toNat L0 = x at *
    obtain ⟨xg, xl, xq⟩ := x
    simp only at *
    have HS : Aside0 (Tab a g (xs.set s.toNat ⟨xg + 1, xl, xq⟩) (w.setCell ⟨g, s.toNat * 3, none⟩ (.int .i64 (xg + 1)))) := ⟨hset⟩
    have HT : Aside0 (Tab a g xs w) := ⟨h⟩
    have hd := h.hd
    clear hset h hg
    by_cases hf : xg ≥ 1073741824
    · rw [if_pos hf]
      go_enter Try.func11, Try.ntmps11
      go_wp2_with (go_at_call 32; refine (at_in a g xs.length s _ h0 h1 hd).mono ?_; rintro e w' ⟨rfl, rfl⟩)
      go_ret2
      exact ⟨rfl, HT.out, grown_refl _ _⟩
    · rw [if_neg hf]
      go_enter Try.func11, Try.ntmps11
      go_wp2_with (go_at_call 32; refine (at_in a g xs.length s _ h0 h1 hd).mono ?_; rintro e w' ⟨rfl, rfl⟩)
      go_ret2
      exact ⟨by simp, HS.out, grown_set _ _⟩
  · rw [if_neg hs]
    have hd := h.hd
    have hl := h.len
    have HT : Aside0 (Tab a g xs w) := ⟨h⟩
    clear h hg
    go_enter Try.func11, Try.ntmps11
    go_wp2_with (go_at_call 32; refine (at_out a g xs.length s _ hs hl hd).mono ?_; rintro e w' ⟨rfl, rfl⟩)
    go_ret2
    exact ⟨rfl, HT.out, grown_refl _ _⟩

/-! ### Served -/
def servedF (xs : List Lane) (s t : Int) : Bool := decide (laneAt xs s) && (decide ((xs.getD s.toNat L0).left < (xs.getD s.toNat L0).given) && t == (xs.getD s.toNat L0).left)

theorem served_calls (a g : Nat) (xs : List Lane) (s ticket : Int) (w : World) (h : Tab a g xs w) :
    Calls Try.prog 12 #[.pointer (some ⟨a, 0, none⟩), .int .i64 s, .int .i64 ticket] w fun e w' =>
      e = .returned (.bool (servedF xs s ticket)) ∧ Tab a g xs w' ∧ w.grownBy w' (some g) := by
  unfold servedF
  by_cases hs : laneAt xs s
  · rw [decide_eq_true hs, Bool.true_and]
    obtain ⟨h0, h1⟩ := hs
    have hi : s.toNat < xs.length := by omega
    have k0 := h.c0 s.toNat hi
    have k1 := h.c1 s.toNat hi
    have hd := h.hd
    have HT : Aside0 (Tab a g xs w) := ⟨h⟩
    clear h
    generalize xs.getD s.toNat L0 = x at *
    obtain ⟨xg, xl, xq⟩ := x
    simp only at *
    go_enter Try.func12, Try.ntmps12
    go_wp2_with (first | (go_at_call 32; refine (at_in a g xs.length s _ h0 h1 hd).mono ?_; rintro e w' ⟨rfl, rfl⟩) | (go_at_call 33; refine (serves_any g (s.toNat * 3) xg xl ticket _ k0 k1).mono ?_; rintro e w' ⟨rfl, n, rfl⟩))
    go_ret
    exact ⟨rfl, HT.out.drewN _, grown_drewN _ _⟩
  · rw [decide_eq_false hs, Bool.false_and]
    have hd := h.hd
    have hl := h.len
    have HT : Aside0 (Tab a g xs w) := ⟨h⟩
    clear h
    go_enter Try.func12, Try.ntmps12
    go_wp2_with (go_at_call 32; refine (at_out a g xs.length s _ hs hl hd).mono ?_; rintro e w' ⟨rfl, rfl⟩)
    go_ret
    exact ⟨rfl, HT.out, grown_refl _ _⟩

/-! ### Seq -/
def seqF (xs : List Lane) (s : Int) : Int := if laneAt xs s then (xs.getD s.toNat L0).seq else 0

theorem seq_calls (a g : Nat) (xs : List Lane) (s : Int) (w : World) (h : Tab a g xs w) :
    Calls Try.prog 17 #[.pointer (some ⟨a, 0, none⟩), .int .i64 s] w fun e w' =>
      e = .returned (.int .i64 (seqF xs s)) ∧ Tab a g xs w' ∧ w.grownBy w' (some g) := by
  unfold seqF
  by_cases hs : laneAt xs s
  · rw [if_pos hs]
    obtain ⟨h0, h1⟩ := hs
    have hi : s.toNat < xs.length := by omega
    have k0 := h.c0 s.toNat hi
    have k1 := h.c1 s.toNat hi
    have k2 := h.c2 s.toNat hi
    have hd := h.hd
    have HT : Aside0 (Tab a g xs w) := ⟨h⟩
    clear h
    generalize xs.getD s.toNat L0 = x at *
    obtain ⟨xg, xl, xq⟩ := x
    simp only at *
    go_enter Try.func17, Try.ntmps17
    go_wp2_with (go_at_call 32; refine (at_in a g xs.length s _ h0 h1 hd).mono ?_; rintro e w' ⟨rfl, rfl⟩)
    (try go_quiet (fail))
    (try go_wp2)
    go_ret
    exact ⟨rfl, by first | exact HT.out | exact HT.out.drewN _, by first | exact grown_refl _ _ | exact grown_drewN _ _⟩
  · rw [if_neg hs]
    have hd := h.hd
    have hl := h.len
    have HT : Aside0 (Tab a g xs w) := ⟨h⟩
    clear h
    go_enter Try.func17, Try.ntmps17
    go_wp2_with (go_at_call 32; refine (at_out a g xs.length s _ hs hl hd).mono ?_; rintro e w' ⟨rfl, rfl⟩)
    go_ret
    exact ⟨rfl, HT.out, grown_refl _ _⟩

/-! ### Waiting -/
def waitingF (xs : List Lane) (s : Int) : Int := if laneAt xs s then wrap64 ((xs.getD s.toNat L0).given - (xs.getD s.toNat L0).left) else 0

theorem waiting_calls (a g : Nat) (xs : List Lane) (s : Int) (w : World) (h : Tab a g xs w) :
    Calls Try.prog 16 #[.pointer (some ⟨a, 0, none⟩), .int .i64 s] w fun e w' =>
      e = .returned (.int .i64 (waitingF xs s)) ∧ Tab a g xs w' ∧ w.grownBy w' (some g) := by
  unfold waitingF
  by_cases hs : laneAt xs s
  · rw [if_pos hs]
    obtain ⟨h0, h1⟩ := hs
    have hi : s.toNat < xs.length := by omega
    have k0 := h.c0 s.toNat hi
    have k1 := h.c1 s.toNat hi
    have k2 := h.c2 s.toNat hi
    have hd := h.hd
    have HT : Aside0 (Tab a g xs w) := ⟨h⟩
    clear h
    generalize xs.getD s.toNat L0 = x at *
    obtain ⟨xg, xl, xq⟩ := x
    simp only at *
    go_enter Try.func16, Try.ntmps16
    go_wp2_with (go_at_call 32; refine (at_in a g xs.length s _ h0 h1 hd).mono ?_; rintro e w' ⟨rfl, rfl⟩)
    (try go_quiet (fail))
    (try go_wp2)
    go_ret
    exact ⟨rfl, by first | exact HT.out | exact HT.out.drewN _, by first | exact grown_refl _ _ | exact grown_drewN _ _⟩
  · rw [if_neg hs]
    have hd := h.hd
    have hl := h.len
    have HT : Aside0 (Tab a g xs w) := ⟨h⟩
    clear h
    go_enter Try.func16, Try.ntmps16
    go_wp2_with (go_at_call 32; refine (at_out a g xs.length s _ hs hl hd).mono ?_; rintro e w' ⟨rfl, rfl⟩)
    go_ret
    exact ⟨rfl, HT.out, grown_refl _ _⟩

/-! ### Leave, Odd, Even: by 'turn' -/
def leaveUp (x : Lane) : Lane := { x with left := wrap64 (x.left + 1) }
def seqUp (x : Lane) : Lane := { x with seq := wrap64 (x.seq + 1) }
def turnF (odd : Int) (up : Lane → Lane) (xs : List Lane) (s t : Int) : Int × List Lane :=
  if laneAt xs s then
    (if (decide ((xs.getD s.toNat L0).left < (xs.getD s.toNat L0).given) && t == (xs.getD s.toNat L0).left) = true then
      (if Int.tmod (xs.getD s.toNat L0).seq 2 = odd then (0, xs.set s.toNat (up (xs.getD s.toNat L0))) else (82, xs))
    else (81, xs))
  else (80, xs)

theorem turn_leave (a g : Nat) (xs : List Lane) (s ticket : Int) (w : World) (h : Tab a g xs w) :
    Calls Try.prog 34 #[.pointer (some ⟨a, 0, none⟩), .int .i64 s, .int .i64 ticket, .int .i64 0, .func (.func 35) #[] #[]] w fun e w' =>
      e = .returned (.int .i64 (turnF 0 leaveUp xs s ticket).1) ∧ Tab a g (turnF 0 leaveUp xs s ticket).2 w' ∧ w.grownBy w' (some g) := by
  unfold turnF
  by_cases hs : laneAt xs s
  · rw [if_pos hs]
    obtain ⟨h0, h1⟩ := hs
    have hi : s.toNat < xs.length := by omega
    have k0 := h.c0 s.toNat hi
    have k1 := h.c1 s.toNat hi
    have k2 := h.c2 s.toNat hi
    have z0 := h.fz (s.toNat * 3 + 1)
    have hset := fun n => (h.drewN n).set s.toNat 1 (.int .i64 (wrap64 ((xs.getD s.toNat L0).left + 1))) (leaveUp (xs.getD s.toNat L0)) hi (by omega) rfl
    have hd := h.hd
    have HT : Aside0 (Tab a g xs w) := ⟨h⟩
    have HS : Aside0 (∀ n, Tab a g (xs.set s.toNat (leaveUp (xs.getD s.toNat L0))) ((w.drewN n).setCell ⟨g, s.toNat * 3 + 1, none⟩ (.int .i64 (wrap64 ((xs.getD s.toNat L0).left + 1))))) := ⟨hset⟩
    clear h hset
    generalize xs.getD s.toNat L0 = x at *
    obtain ⟨xg, xl, xq⟩ := x
    simp only at *
    by_cases hb : (decide (xl < xg) && ticket == xl) = true
    · rw [if_pos hb]
      by_cases ho : Int.tmod xq 2 = 0
      · rw [if_pos ho]
        have ho' : (Int.tmod xq 2 != 0) = false := by simp [ho]
        have HO : Aside0 (Int.tmod xq 2 = 0) := ⟨ho⟩
        have HB : Aside0 ((decide (xl < xg) && ticket == xl) = true) := ⟨hb⟩
        clear ho hb
        go_enter Try.func34, Try.ntmps34
        go_wp2_with (first | (go_at_call 32; refine (at_in a g xs.length s _ h0 h1 hd).mono ?_; rintro e w' ⟨rfl, rfl⟩) | (go_at_call 33; refine (serves_any g (s.toNat * 3) xg xl ticket _ k0 k1).mono ?_; rintro e w' ⟨rfl, n, rfl⟩; rw [HB.out]))
        go_wp2
        go_end0
        go_wp2
        go_ret
        exact ⟨rfl, HS.out n, grown_trans (grown_drewN n _) (grown_set _ _)⟩
      · rw [if_neg ho]
        have ho' : (Int.tmod xq 2 != 0) = true := by simp [ho]
        have HB : Aside0 ((decide (xl < xg) && ticket == xl) = true) := ⟨hb⟩
        clear ho hb HS
        go_enter Try.func34, Try.ntmps34
        go_wp2_with (first | (go_at_call 32; refine (at_in a g xs.length s _ h0 h1 hd).mono ?_; rintro e w' ⟨rfl, rfl⟩) | (go_at_call 33; refine (serves_any g (s.toNat * 3) xg xl ticket _ k0 k1).mono ?_; rintro e w' ⟨rfl, n, rfl⟩; rw [HB.out]))
        go_ret
        exact ⟨rfl, HT.out.drewN _, grown_drewN _ _⟩
    · rw [if_neg hb]
      have HB : Aside0 ((decide (xl < xg) && ticket == xl) = false) := ⟨Bool.eq_false_iff.2 hb⟩
      clear hb HS
      go_enter Try.func34, Try.ntmps34
      go_wp2_with (first | (go_at_call 32; refine (at_in a g xs.length s _ h0 h1 hd).mono ?_; rintro e w' ⟨rfl, rfl⟩) | (go_at_call 33; refine (serves_any g (s.toNat * 3) xg xl ticket _ k0 k1).mono ?_; rintro e w' ⟨rfl, n, rfl⟩; rw [HB.out]))
      go_ret
      exact ⟨rfl, HT.out.drewN _, grown_drewN _ _⟩
  · rw [if_neg hs]
    have hd := h.hd
    have hl := h.len
    have HT : Aside0 (Tab a g xs w) := ⟨h⟩
    clear h
    go_enter Try.func34, Try.ntmps34
    go_wp2_with (go_at_call 32; refine (at_out a g xs.length s _ hs hl hd).mono ?_; rintro e w' ⟨rfl, rfl⟩)
    go_ret
    exact ⟨rfl, HT.out, grown_refl _ _⟩

theorem turn_odd (a g : Nat) (xs : List Lane) (s ticket : Int) (w : World) (h : Tab a g xs w) :
    Calls Try.prog 34 #[.pointer (some ⟨a, 0, none⟩), .int .i64 s, .int .i64 ticket, .int .i64 0, .func (.func 36) #[] #[]] w fun e w' =>
      e = .returned (.int .i64 (turnF 0 seqUp xs s ticket).1) ∧ Tab a g (turnF 0 seqUp xs s ticket).2 w' ∧ w.grownBy w' (some g) := by
  unfold turnF
  by_cases hs : laneAt xs s
  · rw [if_pos hs]
    obtain ⟨h0, h1⟩ := hs
    have hi : s.toNat < xs.length := by omega
    have k0 := h.c0 s.toNat hi
    have k1 := h.c1 s.toNat hi
    have k2 := h.c2 s.toNat hi
    have z0 := h.fz (s.toNat * 3 + 2)
    have hset := fun n => (h.drewN n).set s.toNat 2 (.int .i64 (wrap64 ((xs.getD s.toNat L0).seq + 1))) (seqUp (xs.getD s.toNat L0)) hi (by omega) rfl
    have hd := h.hd
    have HT : Aside0 (Tab a g xs w) := ⟨h⟩
    have HS : Aside0 (∀ n, Tab a g (xs.set s.toNat (seqUp (xs.getD s.toNat L0))) ((w.drewN n).setCell ⟨g, s.toNat * 3 + 2, none⟩ (.int .i64 (wrap64 ((xs.getD s.toNat L0).seq + 1))))) := ⟨hset⟩
    clear h hset
    generalize xs.getD s.toNat L0 = x at *
    obtain ⟨xg, xl, xq⟩ := x
    simp only at *
    by_cases hb : (decide (xl < xg) && ticket == xl) = true
    · rw [if_pos hb]
      by_cases ho : Int.tmod xq 2 = 0
      · rw [if_pos ho]
        have ho' : (Int.tmod xq 2 != 0) = false := by simp [ho]
        have HO : Aside0 (Int.tmod xq 2 = 0) := ⟨ho⟩
        have HB : Aside0 ((decide (xl < xg) && ticket == xl) = true) := ⟨hb⟩
        clear ho hb
        go_enter Try.func34, Try.ntmps34
        go_wp2_with (first | (go_at_call 32; refine (at_in a g xs.length s _ h0 h1 hd).mono ?_; rintro e w' ⟨rfl, rfl⟩) | (go_at_call 33; refine (serves_any g (s.toNat * 3) xg xl ticket _ k0 k1).mono ?_; rintro e w' ⟨rfl, n, rfl⟩; rw [HB.out]))
        go_wp2
        go_end0
        go_wp2
        go_ret
        exact ⟨rfl, HS.out n, grown_trans (grown_drewN n _) (grown_set _ _)⟩
      · rw [if_neg ho]
        have ho' : (Int.tmod xq 2 != 0) = true := by simp [ho]
        have HB : Aside0 ((decide (xl < xg) && ticket == xl) = true) := ⟨hb⟩
        clear ho hb HS
        go_enter Try.func34, Try.ntmps34
        go_wp2_with (first | (go_at_call 32; refine (at_in a g xs.length s _ h0 h1 hd).mono ?_; rintro e w' ⟨rfl, rfl⟩) | (go_at_call 33; refine (serves_any g (s.toNat * 3) xg xl ticket _ k0 k1).mono ?_; rintro e w' ⟨rfl, n, rfl⟩; rw [HB.out]))
        go_ret
        exact ⟨rfl, HT.out.drewN _, grown_drewN _ _⟩
    · rw [if_neg hb]
      have HB : Aside0 ((decide (xl < xg) && ticket == xl) = false) := ⟨Bool.eq_false_iff.2 hb⟩
      clear hb HS
      go_enter Try.func34, Try.ntmps34
      go_wp2_with (first | (go_at_call 32; refine (at_in a g xs.length s _ h0 h1 hd).mono ?_; rintro e w' ⟨rfl, rfl⟩) | (go_at_call 33; refine (serves_any g (s.toNat * 3) xg xl ticket _ k0 k1).mono ?_; rintro e w' ⟨rfl, n, rfl⟩; rw [HB.out]))
      go_ret
      exact ⟨rfl, HT.out.drewN _, grown_drewN _ _⟩
  · rw [if_neg hs]
    have hd := h.hd
    have hl := h.len
    have HT : Aside0 (Tab a g xs w) := ⟨h⟩
    clear h
    go_enter Try.func34, Try.ntmps34
    go_wp2_with (go_at_call 32; refine (at_out a g xs.length s _ hs hl hd).mono ?_; rintro e w' ⟨rfl, rfl⟩)
    go_ret
    exact ⟨rfl, HT.out, grown_refl _ _⟩

theorem turn_even (a g : Nat) (xs : List Lane) (s ticket : Int) (w : World) (h : Tab a g xs w) :
    Calls Try.prog 34 #[.pointer (some ⟨a, 0, none⟩), .int .i64 s, .int .i64 ticket, .int .i64 1, .func (.func 37) #[] #[]] w fun e w' =>
      e = .returned (.int .i64 (turnF 1 seqUp xs s ticket).1) ∧ Tab a g (turnF 1 seqUp xs s ticket).2 w' ∧ w.grownBy w' (some g) := by
  unfold turnF
  by_cases hs : laneAt xs s
  · rw [if_pos hs]
    obtain ⟨h0, h1⟩ := hs
    have hi : s.toNat < xs.length := by omega
    have k0 := h.c0 s.toNat hi
    have k1 := h.c1 s.toNat hi
    have k2 := h.c2 s.toNat hi
    have z0 := h.fz (s.toNat * 3 + 2)
    have hset := fun n => (h.drewN n).set s.toNat 2 (.int .i64 (wrap64 ((xs.getD s.toNat L0).seq + 1))) (seqUp (xs.getD s.toNat L0)) hi (by omega) rfl
    have hd := h.hd
    have HT : Aside0 (Tab a g xs w) := ⟨h⟩
    have HS : Aside0 (∀ n, Tab a g (xs.set s.toNat (seqUp (xs.getD s.toNat L0))) ((w.drewN n).setCell ⟨g, s.toNat * 3 + 2, none⟩ (.int .i64 (wrap64 ((xs.getD s.toNat L0).seq + 1))))) := ⟨hset⟩
    clear h hset
    generalize xs.getD s.toNat L0 = x at *
    obtain ⟨xg, xl, xq⟩ := x
    simp only at *
    by_cases hb : (decide (xl < xg) && ticket == xl) = true
    · rw [if_pos hb]
      by_cases ho : Int.tmod xq 2 = 1
      · rw [if_pos ho]
        have ho' : (Int.tmod xq 2 != 1) = false := by simp [ho]
        have HO : Aside0 (Int.tmod xq 2 = 1) := ⟨ho⟩
        have HB : Aside0 ((decide (xl < xg) && ticket == xl) = true) := ⟨hb⟩
        clear ho hb
        go_enter Try.func34, Try.ntmps34
        go_wp2_with (first | (go_at_call 32; refine (at_in a g xs.length s _ h0 h1 hd).mono ?_; rintro e w' ⟨rfl, rfl⟩) | (go_at_call 33; refine (serves_any g (s.toNat * 3) xg xl ticket _ k0 k1).mono ?_; rintro e w' ⟨rfl, n, rfl⟩; rw [HB.out]))
        go_wp2
        go_end0
        go_wp2
        go_ret
        exact ⟨rfl, HS.out n, grown_trans (grown_drewN n _) (grown_set _ _)⟩
      · rw [if_neg ho]
        have ho' : (Int.tmod xq 2 != 1) = true := by simp [ho]
        have HB : Aside0 ((decide (xl < xg) && ticket == xl) = true) := ⟨hb⟩
        clear ho hb HS
        go_enter Try.func34, Try.ntmps34
        go_wp2_with (first | (go_at_call 32; refine (at_in a g xs.length s _ h0 h1 hd).mono ?_; rintro e w' ⟨rfl, rfl⟩) | (go_at_call 33; refine (serves_any g (s.toNat * 3) xg xl ticket _ k0 k1).mono ?_; rintro e w' ⟨rfl, n, rfl⟩; rw [HB.out]))
        go_ret
        exact ⟨rfl, HT.out.drewN _, grown_drewN _ _⟩
    · rw [if_neg hb]
      have HB : Aside0 ((decide (xl < xg) && ticket == xl) = false) := ⟨Bool.eq_false_iff.2 hb⟩
      clear hb HS
      go_enter Try.func34, Try.ntmps34
      go_wp2_with (first | (go_at_call 32; refine (at_in a g xs.length s _ h0 h1 hd).mono ?_; rintro e w' ⟨rfl, rfl⟩) | (go_at_call 33; refine (serves_any g (s.toNat * 3) xg xl ticket _ k0 k1).mono ?_; rintro e w' ⟨rfl, n, rfl⟩; rw [HB.out]))
      go_ret
      exact ⟨rfl, HT.out.drewN _, grown_drewN _ _⟩
  · rw [if_neg hs]
    have hd := h.hd
    have hl := h.len
    have HT : Aside0 (Tab a g xs w) := ⟨h⟩
    clear h
    go_enter Try.func34, Try.ntmps34
    go_wp2_with (go_at_call 32; refine (at_out a g xs.length s _ hs hl hd).mono ?_; rintro e w' ⟨rfl, rfl⟩)
    go_ret
    exact ⟨rfl, HT.out, grown_refl _ _⟩

theorem leave_calls (a g : Nat) (xs : List Lane) (s ticket : Int) (w : World) (h : Tab a g xs w) :
    Calls Try.prog 13 #[.pointer (some ⟨a, 0, none⟩), .int .i64 s, .int .i64 ticket] w fun e w' =>
      e = .returned (.int .i64 (turnF 0 leaveUp xs s ticket).1) ∧ Tab a g (turnF 0 leaveUp xs s ticket).2 w' ∧ w.grownBy w' (some g) := by
  have HT : Aside0 (Tab a g xs w) := ⟨h⟩
  clear h
  obtain ⟨r1, r2, hr⟩ : ∃ r1 r2, turnF 0 leaveUp xs s ticket = (r1, r2) := ⟨_, _, rfl⟩
  rw [hr]
  have HR := Aside0.mk hr
  clear hr
  go_enter Try.func13, Try.ntmps13
  go_wp2_with fail
  refine (turn_leave a g xs s ticket _ HT.out).mono ?_
  rw [HR.out]
  rintro e w' ⟨rfl, hq1, hq2⟩
  have H1 := Aside0.mk hq1
  have H2 := Aside0.mk hq2
  clear hq1 hq2 HT
  go_wp2
  go_ret
  exact ⟨rfl, H1.out, H2.out⟩

theorem odd_calls (a g : Nat) (xs : List Lane) (s ticket : Int) (w : World) (h : Tab a g xs w) :
    Calls Try.prog 14 #[.pointer (some ⟨a, 0, none⟩), .int .i64 s, .int .i64 ticket] w fun e w' =>
      e = .returned (.int .i64 (turnF 0 seqUp xs s ticket).1) ∧ Tab a g (turnF 0 seqUp xs s ticket).2 w' ∧ w.grownBy w' (some g) := by
  have HT : Aside0 (Tab a g xs w) := ⟨h⟩
  clear h
  obtain ⟨r1, r2, hr⟩ : ∃ r1 r2, turnF 0 seqUp xs s ticket = (r1, r2) := ⟨_, _, rfl⟩
  rw [hr]
  have HR := Aside0.mk hr
  clear hr
  go_enter Try.func14, Try.ntmps14
  go_wp2_with fail
  refine (turn_odd a g xs s ticket _ HT.out).mono ?_
  rw [HR.out]
  rintro e w' ⟨rfl, hq1, hq2⟩
  have H1 := Aside0.mk hq1
  have H2 := Aside0.mk hq2
  clear hq1 hq2 HT
  go_wp2
  go_ret
  exact ⟨rfl, H1.out, H2.out⟩

theorem even_calls (a g : Nat) (xs : List Lane) (s ticket : Int) (w : World) (h : Tab a g xs w) :
    Calls Try.prog 15 #[.pointer (some ⟨a, 0, none⟩), .int .i64 s, .int .i64 ticket] w fun e w' =>
      e = .returned (.int .i64 (turnF 1 seqUp xs s ticket).1) ∧ Tab a g (turnF 1 seqUp xs s ticket).2 w' ∧ w.grownBy w' (some g) := by
  have HT : Aside0 (Tab a g xs w) := ⟨h⟩
  clear h
  obtain ⟨r1, r2, hr⟩ : ∃ r1 r2, turnF 1 seqUp xs s ticket = (r1, r2) := ⟨_, _, rfl⟩
  rw [hr]
  have HR := Aside0.mk hr
  clear hr
  go_enter Try.func15, Try.ntmps15
  go_wp2_with fail
  refine (turn_even a g xs s ticket _ HT.out).mono ?_
  rw [HR.out]
  rintro e w' ⟨rfl, hq1, hq2⟩
  have H1 := Aside0.mk hq1
  have H2 := Aside0.mk hq2
  clear hq1 hq2 HT
  go_wp2
  go_ret
  exact ⟨rfl, H1.out, H2.out⟩

/-! ### New, Stripes -/
theorem madeLanes (n : Nat) : madeCells (Value.agg #[.int .i64 0, .int .i64 0, .int .i64 0]).cells (n * 3) = (flat (List.replicate n L0)).toArray := by
  apply Array.ext'
  rw [List.toList_toArray]
  apply List.ext_getElem?
  intro i
  have hl : (flat (List.replicate n L0)).length = n * 3 := by rw [flat_len, List.length_replicate]
  rcases Nat.lt_or_ge i (n * 3) with hi | hi
  · have h3 := flat_get (List.replicate n L0) (i / 3) (i % 3) (by rw [List.length_replicate]; omega) (Nat.mod_lt _ (by omega))
    rw [show i / 3 * 3 + i % 3 = i by omega] at h3
    rw [h3]
    have hg : (List.replicate n L0).getD (i / 3) L0 = L0 := by
      rw [List.getD_eq_getElem?_getD, List.getElem?_replicate]
      split <;> rfl
    rw [hg]
    have h4 : i % 3 = 0 ∨ i % 3 = 1 ∨ i % 3 = 2 := by omega
    unfold madeCells
    rw [Array.getElem?_toList, Array.getElem?_map, Array.getElem?_range, if_pos hi]
    show some ((#[Value.int .i64 0, .int .i64 0, .int .i64 0] : Array Value)[i % 3]!) = _
    rcases h4 with h4 | h4 | h4 <;> rw [h4] <;> rfl
  · rw [List.getElem?_eq_none (by rw [Array.length_toList, size_madeCells]; exact hi), List.getElem?_eq_none (by rw [hl]; exact hi)]

theorem infoLane : (Try.prog.info? 60).map (fun i => (i.zero, i.size, i.bytes)) = some (some (.agg #[.int .i64 0, .int .i64 0, .int .i64 0]), 3, 24) := by kernel_rfl

theorem makeLanes (n : Nat) (hn : n ≤ 64) (w : World) : (Instr.makeSlice 54 (.int .i64 n) (.int .i64 n)).run Try.prog w = .ok (.slice (some ⟨w.heap.size, 0, none⟩) n n) (w.alloc (.cells (flat (List.replicate n L0)).toArray 60 (0, 0))) := by
  obtain ⟨i0, hi, hz0, hz1, hz2⟩ := info_parts infoLane
  have := run_make (P := Try.prog) w 54 60 i0 (.agg #[.int .i64 0, .int .i64 0, .int .i64 0]) Try.underlying54 hi hz0 .i64 .i64 n n (by omega) (by omega) (by rw [hz2]; omega) (by omega)
  rw [this, hz1]
  show Result.ok _ (w.alloc (.cells (madeCells _ ((n : Int).toNat * 3)) _)) = _
  rw [Int.toNat_natCast, madeLanes]

theorem new_ok (n : Nat) (h1 : 1 ≤ n) (h2 : n ≤ 64) (w : World) :
    Calls Try.prog 10 #[.int .i64 n] w fun e w' =>
      e = .returned (.tuple #[.pointer (some ⟨w.heap.size + 1, 0, none⟩), .int .i64 0]) ∧ Tab (w.heap.size + 1) w.heap.size (List.replicate n L0) w' ∧ Below w.heap.size w w' := by
  have hmk := makeLanes n h2
  go_enter Try.func10, Try.ntmps10
  go_wp2
  go_ret2
  refine ⟨rfl, ⟨by omega, by rw [List.length_replicate]; exact h2, ?_, ?_⟩, ?_⟩
  · rw [List.length_replicate]
    show ((w.heap.push _).push _)[w.heap.size + 1]? = _
    simp [Array.getElem?_push, Array.getElem_push]
  · show ((w.heap.push _).push _)[w.heap.size]? = _
    simp [Array.getElem?_push, Array.getElem_push]
  · repeat (first | exact Below.refl _ _ | apply below_alloc)

theorem new_bad (n : Int) (h : n < 1 ∨ 64 < n) (w : World) :
    Calls Try.prog 10 #[.int .i64 n] w fun e w' => e = .returned (.tuple #[.pointer none, .int .i64 2]) ∧ w = w' := by
  rcases h with h | h
  · go_enter Try.func10, Try.ntmps10
    go_wp2
    go_ret2
    exact ⟨rfl, rfl⟩
  · have h0 : ¬ n < 1 := by omega
    go_enter Try.func10, Try.ntmps10
    go_wp2
    go_ret2
    exact ⟨rfl, rfl⟩

theorem stripes_calls (a g : Nat) (xs : List Lane) (w : World) (h : Tab a g xs w) :
    Calls Try.prog 19 #[.pointer (some ⟨a, 0, none⟩)] w fun e w' => e = .returned (.int .i64 xs.length) ∧ w = w' := by
  have hd := h.hd
  have hl := h.len
  clear h
  go_enter Try.func19, Try.ntmps19
  go_wp2
  go_ret
  exact ⟨rfl, rfl⟩
end Go.Proofs.Ytgklgicfgpemgaa.Lk
