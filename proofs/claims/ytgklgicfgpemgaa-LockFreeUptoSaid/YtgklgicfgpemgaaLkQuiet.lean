/- LockQuiet: the law answers true for every three numbers. No condition. -/
import Derived.Test.YtgklgicfgpemgaaLkTab
import Derived.IntWalk
import Derived.Deep.LoopGhost
namespace Go.Proofs.Ytgklgicfgpemgaa.Lk
open Go.RowKit Go.Proofs.YtgklgicfgpemgaaW.PrintWords
set_option linter.unusedVariables false
set_option linter.unusedSimpArgs false

theorem ret_int {k : IntKind} {a b : Int} (h : a = b) : Ending.returned (.int k a) = .returned (.int k b) := by rw [h]

theorem tmod_fix (n m : Int) (h : 0 < m) : (if Int.tmod n m < 0 then Int.tmod n m + m else Int.tmod n m) = n % m ∧ -m < Int.tmod n m ∧ Int.tmod n m < m := by
  have h4 := Int.emod_nonneg n (show m ≠ 0 by omega)
  have h5 := Int.emod_lt_of_pos n h
  have hm : (m.natAbs : Int) = m := by omega
  rw [Int.tmod_eq_emod]
  by_cases c : 0 ≤ n ∨ m ∣ n
  · rw [if_pos c, if_neg (by omega)]
    omega
  · have hz : n % m ≠ 0 := fun e => c (Or.inr (Int.dvd_of_emod_eq_zero e))
    rw [if_neg c, hm, if_pos (by omega)]
    omega

theorem within_calls (n m : Int) (w : World) (h0 : 0 ≤ m) (h1 : m ≤ 1000) (hn : -9223372036854775808 ≤ n) (hn2 : n ≤ 9223372036854775807) :
    Calls Try.prog 9 #[.int .i64 n, .int .i64 m] w fun e w' => e = .returned (.int .i64 (n % (m + 1))) ∧ w = w' := by
  obtain ⟨hf, hb1, hb2⟩ := tmod_fix n (m + 1) (by omega)
  have hz : ((m + 1 : Int) == 0) = false := by simp; omega
  by_cases hc : Int.tmod n (m + 1) < 0
  · rw [if_pos hc] at hf
    have HF := Aside0.mk hf
    clear hf
    go_enter Try.func9, Try.ntmps9
    go_wp2
    go_ret
    exact ⟨ret_int (by rw [← HF.out]; omega), rfl⟩
  · rw [if_neg hc] at hf
    have HF := Aside0.mk hf
    clear hf
    go_enter Try.func9, Try.ntmps9
    go_wp2
    go_ret
    exact ⟨ret_int HF.out, rfl⟩

/-! ### the plain steps -/
theorem getD_set (xs : List Lane) (b : Nat) (x : Lane) (hb : b < xs.length) : (xs.set b x).getD b L0 = x := by
  rw [List.getD_eq_getElem?_getD, List.getElem?_set_self hb]
  rfl
theorem getD_set_ne (xs : List Lane) (a b : Nat) (x : Lane) (h : a ≠ b) : (xs.set a x).getD b L0 = xs.getD b L0 := by
  rw [List.getD_eq_getElem?_getD, List.getElem?_set_ne h, List.getD_eq_getElem?_getD]
theorem getD_rep (n b : Nat) : (List.replicate n L0).getD b L0 = L0 := by
  rw [List.getD_eq_getElem?_getD, List.getElem?_replicate]
  split <;> rfl

theorem turn_set (odd : Int) (up : Lane → Lane) (xs : List Lane) (b : Nat) (x : Lane) (hb : b < xs.length) (h1 : x.left < x.given) (h2 : Int.tmod x.seq 2 = odd) :
    turnF odd up (xs.set b x) (b : Int) x.left = (0, xs.set b (up x)) := by
  unfold turnF
  rw [if_pos ⟨by omega, by rw [List.length_set]; omega⟩, Int.toNat_natCast, getD_set xs b x hb, if_pos (by simp [h1]), if_pos h2, List.set_set]
theorem ticket_set (xs : List Lane) (b : Nat) (hb : b < xs.length) (h1 : (xs.getD b L0).given < 1073741824) :
    ticketF xs (b : Int) = (((xs.getD b L0).given, 0), xs.set b { xs.getD b L0 with given := (xs.getD b L0).given + 1 }) := by
  unfold ticketF
  rw [if_pos ⟨by omega, by omega⟩, Int.toNat_natCast, if_neg (by omega)]

/-- The table of LockQuiet behind i changes. -/
def Q (a b : Nat) (i : Int) : List Lane := ((List.replicate 4 L0).set a ⟨1, 0, 0⟩).set b ⟨1, 0, 2 * i⟩
theorem Q_len (a b : Nat) (i : Int) : (Q a b i).length = 4 := by simp [Q]
theorem Q_odd (a b : Nat) (i : Int) (hb : b < 4) (h0 : 0 ≤ i) (h1 : i ≤ 100) : turnF 0 seqUp (Q a b i) (b : Int) 0 = (0, ((List.replicate 4 L0).set a ⟨1, 0, 0⟩).set b ⟨1, 0, 2 * i + 1⟩) := by
  have e := turn_set 0 seqUp ((List.replicate 4 L0).set a ⟨1, 0, 0⟩) b ⟨1, 0, 2 * i⟩ (by simp; omega) (by show (0 : Int) < 1; omega) (by show Int.tmod (2 * i) 2 = 0; rw [Int.tmod_eq_emod_of_nonneg (by omega)]; omega)
  have w : seqUp ⟨1, 0, 2 * i⟩ = ⟨1, 0, 2 * i + 1⟩ := by
    unfold seqUp
    rw [show wrap64 (2 * i + 1) = 2 * i + 1 by unfold wrap64; omega]
  rw [w] at e
  exact e
theorem Q_even (a b : Nat) (i : Int) (hb : b < 4) (h0 : 0 ≤ i) (h1 : i ≤ 100) : turnF 1 seqUp (((List.replicate 4 L0).set a ⟨1, 0, 0⟩).set b ⟨1, 0, 2 * i + 1⟩) (b : Int) 0 = (0, Q a b (i + 1)) := by
  have e := turn_set 1 seqUp ((List.replicate 4 L0).set a ⟨1, 0, 0⟩) b ⟨1, 0, 2 * i + 1⟩ (by simp; omega) (by show (0 : Int) < 1; omega) (by show Int.tmod (2 * i + 1) 2 = 1; rw [Int.tmod_eq_emod_of_nonneg (by omega)]; omega)
  have w : seqUp ⟨1, 0, 2 * i + 1⟩ = ⟨1, 0, 2 * (i + 1)⟩ := by
    unfold seqUp
    rw [show wrap64 (2 * i + 1 + 1) = 2 * (i + 1) by unfold wrap64; omega]
  rw [w] at e
  exact e
theorem seqF_b (a b : Nat) (v : Int) (hb : b < 4) : seqF (((List.replicate 4 L0).set a ⟨1, 0, 0⟩).set b ⟨1, 0, v⟩) (b : Int) = v := by
  unfold seqF
  rw [if_pos ⟨by omega, by simp; omega⟩, Int.toNat_natCast, getD_set _ b _ (by simp; omega)]
theorem seqF_a (a b : Nat) (v : Int) (ha : a < 4) (h : a ≠ b) : seqF (((List.replicate 4 L0).set a ⟨1, 0, 0⟩).set b ⟨1, 0, v⟩) (a : Int) = 0 := by
  unfold seqF
  rw [if_pos ⟨by omega, by simp; omega⟩, Int.toNat_natCast, getD_set_ne _ b a _ (fun e => h e.symm), getD_set _ a _ (by simp; omega)]
theorem Q_first (a : Nat) (ha : a < 4) : ticketF (List.replicate 4 L0) (a : Int) = ((0, 0), (List.replicate 4 L0).set a ⟨1, 0, 0⟩) := by
  rw [ticket_set _ a (by simp; omega) (by rw [getD_rep]; decide), getD_rep]
  rfl
theorem Q_same (a : Nat) : (List.replicate 4 L0).set a ⟨1, 0, 0⟩ = Q a a 0 := by
  unfold Q
  rw [List.set_set]
  rfl
theorem Q_second (a b : Nat) (hb : b < 4) (h : a ≠ b) : ticketF ((List.replicate 4 L0).set a ⟨1, 0, 0⟩) (b : Int) = ((0, 0), Q a b 0) := by
  rw [ticket_set _ b (by simp; omega) (by rw [getD_set_ne _ a b _ h, getD_rep]; decide), getD_set_ne _ a b _ h, getD_rep]
  rfl
theorem given_rep : ∀ x ∈ List.replicate 4 L0, 0 ≤ x.given := by
  intro x hx
  rw [List.eq_of_mem_replicate hx]
  decide
theorem given_set (a : Nat) : ∀ x ∈ (List.replicate 4 L0).set a ⟨1, 0, 0⟩, 0 ≤ x.given := by
  intro x hx
  rcases List.mem_or_eq_of_mem_set hx with h | h
  · exact given_rep x h
  · rw [h]
    decide

set_option maxRecDepth 100000 in
set_option maxHeartbeats 4000000 in
theorem quiet_true (x y z : Int) (w : World) (hx : (Lit.int .i64 x).wf = true) (hy : (Lit.int .i64 y).wf = true) (hz : (Lit.int .i64 z).wf = true) :
    Calls Try.prog 4 #[.int .i64 x, .int .i64 y, .int .i64 z] w fun e w' => e = .returned (.bool true) ∧ Below w.heap.size w w' := by
  have bx : -9223372036854775808 ≤ x ∧ x ≤ 9223372036854775807 := by simpa [Lit.wf, IntKind.min, IntKind.max, IntKind.bits, IntKind.signed] using hx
  have by' : -9223372036854775808 ≤ y ∧ y ≤ 9223372036854775807 := by simpa [Lit.wf, IntKind.min, IntKind.max, IntKind.bits, IntKind.signed] using hy
  have bz : -9223372036854775808 ≤ z ∧ z ≤ 9223372036854775807 := by simpa [Lit.wf, IntKind.min, IntKind.max, IntKind.bits, IntKind.signed] using hz
  clear hx hy hz
  obtain ⟨a, ha, ea⟩ : ∃ a : Nat, a < 4 ∧ x % (3 + 1) = a := ⟨(x % 4).toNat, by omega, by omega⟩
  obtain ⟨b, hb, eb⟩ : ∃ b : Nat, b < 4 ∧ y % (3 + 1) = b := ⟨(y % 4).toNat, by omega, by omega⟩
  obtain ⟨n, hn, en⟩ : ∃ n : Nat, n ≤ 20 ∧ z % (20 + 1) = n := ⟨(z % 21).toNat, by omega, by omega⟩
  have EA := Aside0.mk ea
  have EB := Aside0.mk eb
  have EN := Aside0.mk en
  clear ea eb en
  go_enter Try.func4, Try.ntmps4
  go_wp2_with fail
  refine (works_true _).mono ?_
  rintro e w1 ⟨rfl, hb1⟩
  have B1 := Aside0.mk hb1
  clear hb1
  go_wp2_with fail
  refine (new_ok 4 (by omega) (by omega) _).mono ?_
  rintro e w2 ⟨rfl, ht2, hb2⟩
  have T2 := Aside0.mk ht2
  have B2 := Aside0.mk hb2
  clear ht2 hb2
  go_wp2_with fail
  refine (within_calls x 3 _ (by omega) (by omega) bx.1 bx.2).mono ?_
  rw [EA.out]
  rintro e w' ⟨rfl, rfl⟩
  go_wp2_with fail
  refine (within_calls y 3 _ (by omega) (by omega) by'.1 by'.2).mono ?_
  rw [EB.out]
  rintro e w' ⟨rfl, rfl⟩
  go_wp2_with fail
  refine (ticket_calls _ _ _ a _ T2.out given_rep).mono ?_
  rw [Q_first a ha]
  rintro e w3 ⟨rfl, ht3, hg3⟩
  have T3 := Aside0.mk ht3
  have G3 := Aside0.mk hg3
  clear ht3 hg3
  go_wp2_with fail
  · have hne : a ≠ b := by
      intro e
      subst e
      simp at *
    have NE := Aside0.mk hne
    clear hne
    refine (ticket_calls _ _ _ b _ T3.out (given_set a)).mono ?_
    rw [Q_second a b hb NE.out]
    rintro e w4 ⟨rfl, ht4, hg4⟩
    have T4 := Aside0.mk ht4
    have G4 := Aside0.mk (grown_trans G3.out hg4)
    clear ht4 hg4 T3 G3
    go_wp2_with fail
    refine (within_calls z 20 _ (by omega) (by omega) bz.1 bz.2).mono ?_
    rw [EN.out]
    rintro e w' ⟨rfl, rfl⟩
    go_wp2_with fail
    refine (seq_calls _ _ _ a _ T4.out).mono ?_
    rw [show seqF (Q a b 0) (a : Int) = 0 from seqF_a a b _ ha NE.out]
    rintro e w5 ⟨rfl, ht5, hg5⟩
    have T5 := Aside0.mk ht5
    have G5 := Aside0.mk (grown_trans G4.out hg5)
    clear ht5 hg5 T4 G4
    go_wp2_with fail
    go_loopw [14] (fun i wr => ∃ k : Nat, k ≤ n ∧ i = .int .i64 k ∧ Aside0 (Tab (w1.heap.size + 1) w1.heap.size (Q a b k) wr) ∧ Aside0 (w2.grownBy wr (some w1.heap.size))) (fun i _ => n - (intOf i).toNat)
    case atStart => exact ⟨0, Nat.zero_le _, rfl, T5, G5⟩
    case round =>
      obtain ⟨k, hk, rfl, T6, G6⟩ := hrel
      by_cases hlt : k < n
      · go_wp2_with fail
        refine (odd_calls _ _ _ b 0 _ T6.out).mono ?_
        rw [Q_odd a b k hb (by omega) (by omega)]
        rintro e w7 ⟨rfl, ht7, hg7⟩
        have T7 := Aside0.mk ht7
        have G7 := Aside0.mk (grown_trans G6.out hg7)
        clear ht7 hg7 T6 G6
        go_wp2_with fail
        refine (seq_calls _ _ _ b _ T7.out).mono ?_
        rw [seqF_b a b _ hb]
        rintro e w8 ⟨rfl, ht8, hg8⟩
        have T8 := Aside0.mk ht8
        have G8 := Aside0.mk (grown_trans G7.out hg8)
        clear ht8 hg8 T7 G7
        go_wp2_with fail
        refine (even_calls _ _ _ b 0 _ T8.out).mono ?_
        rw [Q_even a b k hb (by omega) (by omega)]
        rintro e w9 ⟨rfl, ht9, hg9⟩
        have T9 := Aside0.mk ht9
        have G9 := Aside0.mk (grown_trans G8.out hg9)
        clear ht9 hg9 T8 G8
        go_wp2
        go_roundw
        case rel => exact ⟨k + 1, by omega, by go_num, ⟨by have := T9.out; rw [show ((k + 1 : Nat) : Int) = (k : Int) + 1 from rfl]; exact this⟩, G9⟩
        case measure => simp [intOf]; omega
      · have hkn : k = n := by omega
        subst hkn
        go_wp2_with fail
        refine (seq_calls _ _ _ a _ T6.out).mono ?_
        rw [show seqF (Q a b k) (a : Int) = 0 from seqF_a a b _ ha NE.out]
        rintro e w7 ⟨rfl, ht7, hg7⟩
        have T7 := Aside0.mk ht7
        have G7 := Aside0.mk (grown_trans G6.out hg7)
        clear ht7 hg7 T6 G6
        go_wp2_with fail
        refine (seq_calls _ _ _ b _ T7.out).mono ?_
        rw [show seqF (Q a b k) (b : Int) = 2 * (k : Int) from seqF_b a b _ hb]
        rintro e w8 ⟨rfl, ht8, hg8⟩
        have G8 := Aside0.mk (grown_trans G7.out hg8)
        clear ht8 hg8 T7 G7
        go_wp2
        go_ret
        refine ⟨?_, pw_below_grown (below_step B1.out B2.out) _ (below_size (below_step B1.out B2.out)) G8.out (fun k hk => by cases hk; exact below_size B1.out)⟩
        first | rfl | simp
  · have he : a = b := by
      have : ((a : Int) != b) = false := by assumption
      simp at this
      omega
    subst he
    rename_i w4
    have T4 : Aside0 (Tab (w1.heap.size + 1) w1.heap.size (Q a a 0) w3) := ⟨Q_same a ▸ T3.out⟩
    have G4 := G3
    clear T3 G3
    go_wp2_with fail
    refine (within_calls z 20 _ (by omega) (by omega) bz.1 bz.2).mono ?_
    rw [EN.out]
    rintro e w' ⟨rfl, rfl⟩
    go_wp2_with fail
    refine (seq_calls _ _ _ a _ T4.out).mono ?_
    rw [show seqF (Q a a 0) (a : Int) = 0 from seqF_b a a _ ha]
    rintro e w5 ⟨rfl, ht5, hg5⟩
    have T5 := Aside0.mk ht5
    have G5 := Aside0.mk (grown_trans G4.out hg5)
    clear ht5 hg5 T4 G4
    go_wp2_with fail
    go_loopw [14] (fun i wr => ∃ k : Nat, k ≤ n ∧ i = .int .i64 k ∧ Aside0 (Tab (w1.heap.size + 1) w1.heap.size (Q a a k) wr) ∧ Aside0 (w2.grownBy wr (some w1.heap.size))) (fun i _ => n - (intOf i).toNat)
    case atStart => exact ⟨0, Nat.zero_le _, rfl, T5, G5⟩
    case round =>
      obtain ⟨k, hk, rfl, T6, G6⟩ := hrel
      by_cases hlt : k < n
      · go_wp2_with fail
        refine (odd_calls _ _ _ a 0 _ T6.out).mono ?_
        rw [Q_odd a a k ha (by omega) (by omega)]
        rintro e w7 ⟨rfl, ht7, hg7⟩
        have T7 := Aside0.mk ht7
        have G7 := Aside0.mk (grown_trans G6.out hg7)
        clear ht7 hg7 T6 G6
        go_wp2_with fail
        refine (seq_calls _ _ _ a _ T7.out).mono ?_
        rw [seqF_b a a _ ha]
        rintro e w8 ⟨rfl, ht8, hg8⟩
        have T8 := Aside0.mk ht8
        have G8 := Aside0.mk (grown_trans G7.out hg8)
        clear ht8 hg8 T7 G7
        go_wp2_with fail
        refine (even_calls _ _ _ a 0 _ T8.out).mono ?_
        rw [Q_even a a k ha (by omega) (by omega)]
        rintro e w9 ⟨rfl, ht9, hg9⟩
        have T9 := Aside0.mk ht9
        have G9 := Aside0.mk (grown_trans G8.out hg9)
        clear ht9 hg9 T8 G8
        go_wp2
        go_roundw
        case rel => exact ⟨k + 1, by omega, by go_num, ⟨by have := T9.out; rw [show ((k + 1 : Nat) : Int) = (k : Int) + 1 from rfl]; exact this⟩, G9⟩
        case measure => simp [intOf]; omega
      · have hkn : k = n := by omega
        subst hkn
        go_wp2_with fail
        refine (seq_calls _ _ _ a _ T6.out).mono ?_
        rw [show seqF (Q a a k) (a : Int) = 2 * (k : Int) from seqF_b a a _ ha]
        rintro e w7 ⟨rfl, ht7, hg7⟩
        have T7 := Aside0.mk ht7
        have G7 := Aside0.mk (grown_trans G6.out hg7)
        clear ht7 hg7 T6 G6
        have e2 : ((2 * (k : Int)) == 0) = ((k : Int) == 0) := by rw [Bool.eq_iff_iff, beq_iff_eq, beq_iff_eq]; omega
        go_wp2_with fail
        refine (seq_calls _ _ _ a _ T7.out).mono ?_
        rw [show seqF (Q a a k) (a : Int) = 2 * (k : Int) from seqF_b a a _ ha]
        rintro e w8 ⟨rfl, ht8, hg8⟩
        have G8 := Aside0.mk (grown_trans G7.out hg8)
        clear ht8 hg8 T7 G7
        go_wp2
        go_ret
        refine ⟨?_, pw_below_grown (below_step B1.out B2.out) _ (below_size (below_step B1.out B2.out)) G8.out (fun k hk => by cases hk; exact below_size B1.out)⟩
        first | rfl | simp
end Go.Proofs.Ytgklgicfgpemgaa.Lk
