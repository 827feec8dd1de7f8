/- LockTurns: the law answers true for every number and every list of tries. No condition. -/
import Derived.Test.YtgklgicfgpemgaaLkQuiet
namespace Go.Proofs.Ytgklgicfgpemgaa.Lk
open Go.RowKit Go.Proofs.YtgklgicfgpemgaaW.PrintWords
set_option linter.unusedVariables false
set_option linter.unusedSimpArgs false

/-- The table of LockTurns: g tickets were given, l left. -/
def Tn (g l : Int) : List Lane := [L0, ⟨g, l, 0⟩, L0]
theorem Tn_ticket (g : Int) (h0 : 0 ≤ g) (h1 : g ≤ 100) : ticketF (Tn g 0) 1 = ((g, 0), Tn (g + 1) 0) := by
  have e : ticketF (Tn g 0) 1 = if g ≥ 1073741824 then ((0, 5), Tn g 0) else ((g, 0), Tn (g + 1) 0) := rfl
  rw [e, if_neg (by omega)]
theorem Tn_served_no (g l t : Int) (h : t ≠ l) : servedF (Tn g l) 1 t = false := by
  have e : servedF (Tn g l) 1 t = (true && (decide (l < g) && t == l)) := rfl
  rw [e]
  simp [h]
theorem Tn_served (g l : Int) (h : l < g) : servedF (Tn g l) 1 l = true := by
  have e : servedF (Tn g l) 1 l = (true && (decide (l < g) && l == l)) := rfl
  rw [e]
  simp [h]
theorem Tn_served_end (g : Int) : servedF (Tn g g) 1 g = false := by
  have e : servedF (Tn g g) 1 g = (true && (decide (g < g) && g == g)) := rfl
  rw [e]
  simp
theorem Tn_turn_no (odd : Int) (up : Lane → Lane) (g l t : Int) (h : t ≠ l) : turnF odd up (Tn g l) 1 t = (81, Tn g l) := by
  have e : turnF odd up (Tn g l) 1 t = if (decide (l < g) && t == l) = true then (if Int.tmod 0 2 = odd then (0, (Tn g l).set 1 (up ⟨g, l, 0⟩)) else (82, Tn g l)) else (81, Tn g l) := rfl
  rw [e, if_neg (by simp [h])]
theorem Tn_leave (g l : Int) (h0 : 0 ≤ l) (h : l < g) (hg : g ≤ 100) : turnF 0 leaveUp (Tn g l) 1 l = (0, Tn g (l + 1)) := by
  have e : turnF 0 leaveUp (Tn g l) 1 l = if (decide (l < g) && l == l) = true then (if Int.tmod 0 2 = 0 then (0, (Tn g l).set 1 (leaveUp ⟨g, l, 0⟩)) else (82, Tn g l)) else (81, Tn g l) := rfl
  rw [e, if_pos (by simp [h]), if_pos (by decide)]
  have w : wrap64 (l + 1) = l + 1 := by unfold wrap64; omega
  show (0, [L0, ⟨g, wrap64 (l + 1), 0⟩, L0]) = _
  rw [w]
  rfl
theorem Tn_waiting (g l : Int) (h0 : 0 ≤ l) (h : l ≤ g) (hg : g ≤ 100) : waitingF (Tn g l) 1 = g - l := by
  have e : waitingF (Tn g l) 1 = wrap64 (g - l) := rfl
  rw [e]
  unfold wrap64
  omega
theorem Tn_waiting0 (g l : Int) : waitingF (Tn g l) 0 = 0 := by
  show wrap64 (0 - 0) = 0
  unfold wrap64
  omega
theorem cell_later {w w1 w2 w3 : World} {a : Addr} {v : Value} (hb : Below w.heap.size w w2) (hb1 : w.heap.size ≤ w1.heap.size) (G : w2.grownBy w3 (some w1.heap.size)) (hc : w.cell? a = some v) : w3.cell? a = some v :=
  ((pw_below_grown hb _ (below_size hb) G (fun k hk => by cases hk; exact hb1)).cell (World.block_lt_of_cell? w _ hc)).trans hc
theorem Tn_seq (g l : Int) : seqF (Tn g l) 1 = 0 := rfl
theorem Tn_out (g l : Int) : ticketF (Tn g l) 3 = ((0, 80), Tn g l) := rfl
theorem Tn_given (g l : Int) (h : 0 ≤ g) : ∀ x ∈ Tn g l, 0 ≤ x.given := by
  intro x hx
  simp only [Tn, List.mem_cons, List.not_mem_nil, or_false] at hx
  rcases hx with rfl | rfl | rfl
  · decide
  · exact h
  · decide
theorem Tn_new : List.replicate 3 L0 = Tn 0 0 := rfl

set_option maxRecDepth 100000 in
set_option maxHeartbeats 4000000 in
theorem turns_true (x : Int) (A : Option Addr) (cap : Nat) (l : List Int) (w : World) (hr : Kd.C (Kd.int .i64) w A l.length l) (hcap : l.length ≤ cap) (hx : (Lit.int .i64 x).wf = true) (_hg : (∀ x ∈ l, (Lit.int .i64 x).wf = true) ∧ l.length * 8 ≤ 140737488351232 ∧ l.length ≤ maxLen) :
    Calls Try.prog 3 #[.int .i64 x, .slice A l.length cap] w fun e w' => e = .returned (.bool true) ∧ Below w.heap.size w w' := by
  have bx : -9223372036854775808 ≤ x ∧ x ≤ 9223372036854775807 := by simpa [Lit.wf, IntKind.min, IntKind.max, IntKind.bits, IntKind.signed] using hx
  have hl : l.length ≤ 9223372036854775807 := hr.2.1
  clear hx
  have HR := Aside0.mk hr
  have HCAP := Aside0.mk hcap
  clear hr hcap
  obtain ⟨n, hn, en⟩ : ∃ n : Nat, n ≤ 30 ∧ x % (30 + 1) = n := ⟨(x % 31).toNat, by omega, by omega⟩
  have EN := Aside0.mk en
  clear en
  obtain ⟨N, hN1, hN⟩ : ∃ N : Nat, N ≤ 31 ∧ 1 + (n : Int) = N := ⟨n + 1, by omega, by omega⟩
  go_enter Try.func3, Try.ntmps3
  go_wp2_with fail
  refine (works_true _).mono ?_
  rintro e w1 ⟨rfl, hb1⟩
  have B1 := Aside0.mk hb1
  clear hb1
  go_wp2_with fail
  refine (within_calls x 30 _ (by omega) (by omega) bx.1 bx.2).mono ?_
  rw [EN.out]
  rintro e w' ⟨rfl, rfl⟩
  go_wp2_with fail
  clear hN hn
  refine (new_ok 3 (by omega) (by omega) _).mono ?_
  rw [Tn_new]
  rintro e w2 ⟨rfl, ht2, hb2⟩
  have T2 := Aside0.mk ht2
  have B2 := Aside0.mk hb2
  clear ht2 hb2
  go_wp2_with fail
  go_loopw [7] (fun i wr => ∃ k : Nat, k ≤ N ∧ i = .int .i64 k ∧ Aside0 (Tab (w1.heap.size + 1) w1.heap.size (Tn k 0) wr) ∧ Aside0 (w2.grownBy wr (some w1.heap.size))) (fun i _ => N - (intOf i).toNat)
  case atStart => exact ⟨0, Nat.zero_le _, rfl, T2, ⟨grown_refl _ _⟩⟩
  case round =>
    obtain ⟨k, hk, rfl, T3, G3⟩ := hrel
    by_cases hlt : k < N
    · go_wp2_with fail
      refine (ticket_calls _ _ _ 1 _ T3.out (Tn_given _ _ (by omega))).mono ?_
      rw [Tn_ticket k (by omega) (by omega)]
      rintro e w4 ⟨rfl, ht4, hg4⟩
      have T4 := Aside0.mk ht4
      have G4 := Aside0.mk (grown_trans G3.out hg4)
      clear ht4 hg4 T3 G3
      go_wp2
      go_roundw
      case rel => exact ⟨k + 1, by omega, by go_num, ⟨T4.out⟩, G4⟩
      case measure => simp [intOf]; omega
    · have hkn : N = k := by omega
      subst hkn
      obtain ⟨wo, rfl⟩ : ∃ wo : World, wo = wr := ⟨_, rfl⟩
      go_wp2_with fail
      go_loopw [10] (fun i wr => ∃ k : Nat, k ≤ N ∧ i = .int .i64 k ∧ Aside0 (Tab (w1.heap.size + 1) w1.heap.size (Tn N k) wr) ∧ Aside0 (w2.grownBy wr (some w1.heap.size))) (fun i _ => N - (intOf i).toNat)
      case atStart => exact ⟨0, Nat.zero_le _, rfl, T3, G3⟩
      case round =>
        obtain ⟨k, hk, rfl, T5, G5⟩ := hrel
        by_cases hlt2 : k < N
        · obtain ⟨wo2, rfl⟩ : ∃ wo : World, wo = wr := ⟨_, rfl⟩
          go_wp2_with fail
          go_loopw [11] (fun j wr => ∃ m : Nat, m ≤ l.length ∧ m ≤ 20 ∧ j = .int .i64 m ∧ Aside0 (Tab (w1.heap.size + 1) w1.heap.size (Tn N k) wr) ∧ Aside0 (w2.grownBy wr (some w1.heap.size))) (fun j _ => 20 - (intOf j).toNat)
          case atStart => exact ⟨0, Nat.zero_le _, Nat.zero_le _, rfl, T5, G5⟩
          case round =>
            obtain ⟨m, hm, hm2, rfl, T6, G6⟩ := hrel
            by_cases hin : m < l.length ∧ m < 20
            · obtain ⟨hin1, hin2⟩ := hin
              obtain ⟨ad, c, eA, hcl, hK, hcell⟩ := Kd.C_get HR.out 0 (m : Int) (by omega) (by omega)
              subst eA
              have hK' : c = [.int .i64 (l.getD m 0)] := hK
              subst hK'
              have hc0 : w.cell? (ad.add m) = some (.int .i64 (l.getD m 0)) := by
                have := hcell 0 _ rfl
                simpa [Kd.int, Kd.scalar] using this
              clear hcell hcl hK
              obtain ⟨t, et⟩ : ∃ t, l.getD m 0 = t := ⟨_, rfl⟩
              rw [et] at hc0
              have HC0 := Aside0.mk hc0
              clear hc0
              have hcw := cell_later (below_step B1.out B2.out) (below_size B1.out) G6.out HC0.out
              clear et
              by_cases hti : t = (k : Int)
              · subst hti
                go_wp2
                go_roundw
                case rel => exact ⟨m + 1, by omega, by omega, by go_num, T6, G6⟩
                case measure => simp [intOf]; omega
              · have hti' : (t == (k : Int)) = false := by simp [hti]
                have HTI := Aside0.mk hti
                clear hti
                go_wp2_with fail
                refine (served_calls _ _ _ 1 t _ T6.out).mono ?_
                rw [Tn_served_no _ _ _ HTI.out]
                rintro e w7 ⟨rfl, ht7, hg7⟩
                have T7 := Aside0.mk ht7
                have G7 := Aside0.mk (grown_trans G6.out hg7)
                clear ht7 hg7 T6 G6 hcw
                have hcw := cell_later (below_step B1.out B2.out) (below_size B1.out) G7.out HC0.out
                go_wp2_with fail
                refine (leave_calls _ _ _ 1 t _ T7.out).mono ?_
                rw [Tn_turn_no _ _ _ _ _ HTI.out]
                rintro e w8 ⟨rfl, ht8, hg8⟩
                have T8 := Aside0.mk ht8
                have G8 := Aside0.mk (grown_trans G7.out hg8)
                clear ht8 hg8 T7 G7 hcw
                have hcw := cell_later (below_step B1.out B2.out) (below_size B1.out) G8.out HC0.out
                go_wp2_with fail
                refine (odd_calls _ _ _ 1 t _ T8.out).mono ?_
                rw [Tn_turn_no _ _ _ _ _ HTI.out]
                rintro e w9 ⟨rfl, ht9, hg9⟩
                have T9 := Aside0.mk ht9
                have G9 := Aside0.mk (grown_trans G8.out hg9)
                clear ht9 hg9 T8 G8 hcw
                have hcw := cell_later (below_step B1.out B2.out) (below_size B1.out) G9.out HC0.out
                go_wp2_with fail
                refine (even_calls _ _ _ 1 t _ T9.out).mono ?_
                rw [Tn_turn_no _ _ _ _ _ HTI.out]
                rintro e w10 ⟨rfl, ht10, hg10⟩
                have T10 := Aside0.mk ht10
                have G10 := Aside0.mk (grown_trans G9.out hg10)
                clear ht10 hg10 T9 G9 hcw
                have hcw := cell_later (below_step B1.out B2.out) (below_size B1.out) G10.out HC0.out
                go_wp2
                go_roundw
                case rel => exact ⟨m + 1, by omega, by omega, by go_num, T10, G10⟩
                case measure => simp [intOf]; omega
            · by_cases hml : m < l.length
              all_goals
                go_wp2_with fail
                refine (served_calls _ _ _ 1 k _ T6.out).mono ?_
                rw [Tn_served _ _ (by omega)]
                rintro e w7 ⟨rfl, ht7, hg7⟩
                have T7 := Aside0.mk ht7
                have G7 := Aside0.mk (grown_trans G6.out hg7)
                clear ht7 hg7 T6 G6
                go_wp2_with fail
                refine (waiting_calls _ _ _ 1 _ T7.out).mono ?_
                rw [Tn_waiting _ _ (by omega) (by omega) (by omega)]
                rintro e w8 ⟨rfl, ht8, hg8⟩
                have T8 := Aside0.mk ht8
                have G8 := Aside0.mk (grown_trans G7.out hg8)
                clear ht8 hg8 T7 G7
                go_wp2_with fail
                refine (waiting_calls _ _ _ 0 _ T8.out).mono ?_
                rw [Tn_waiting0]
                rintro e w9 ⟨rfl, ht9, hg9⟩
                have T9 := Aside0.mk ht9
                have G9 := Aside0.mk (grown_trans G8.out hg9)
                clear ht9 hg9 T8 G8
                go_wp2_with fail
                refine (seq_calls _ _ _ 1 _ T9.out).mono ?_
                rw [Tn_seq]
                rintro e w10 ⟨rfl, ht10, hg10⟩
                have T10 := Aside0.mk ht10
                have G10 := Aside0.mk (grown_trans G9.out hg10)
                clear ht10 hg10 T9 G9
                go_wp2_with fail
                refine (leave_calls _ _ _ 1 k _ T10.out).mono ?_
                rw [Tn_leave _ _ (by omega) (by omega) (by omega)]
                rintro e w11 ⟨rfl, ht11, hg11⟩
                have T11 := Aside0.mk ht11
                have G11 := Aside0.mk (grown_trans G10.out hg11)
                clear ht11 hg11 T10 G10
                go_wp2
                go_roundw
                case rel => exact ⟨k + 1, by omega, by go_num, T11, G11⟩
                case measure => simp [intOf]; omega
        · have hkn : N = k := by omega
          subst hkn
          go_wp2_with fail
          refine (ticket_calls _ _ _ 3 _ T5.out (Tn_given _ _ (by omega))).mono ?_
          rw [Tn_out]
          rintro e w6 ⟨rfl, ht6, hg6⟩
          have T6 := Aside0.mk ht6
          have G6 := Aside0.mk (grown_trans G5.out hg6)
          clear ht6 hg6 T5 G5
          go_wp2_with fail
          refine (waiting_calls _ _ _ 1 _ T6.out).mono ?_
          rw [Tn_waiting _ _ (by omega) (by omega) (by omega), Int.sub_self]
          rintro e w7 ⟨rfl, ht7, hg7⟩
          have T7 := Aside0.mk ht7
          have G7 := Aside0.mk (grown_trans G6.out hg7)
          clear ht7 hg7 T6 G6
          go_wp2_with fail
          refine (served_calls _ _ _ 1 N _ T7.out).mono ?_
          rw [Tn_served_end]
          rintro e w8 ⟨rfl, ht8, hg8⟩
          have T8 := Aside0.mk ht8
          have G8 := Aside0.mk (grown_trans G7.out hg8)
          clear ht8 hg8 T7 G7
          go_wp2
          go_ret
          exact ⟨rfl, pw_below_grown (below_step B1.out B2.out) _ (below_size (below_step B1.out B2.out)) G8.out (fun k hk => by cases hk; exact below_size B1.out)⟩
end Go.Proofs.Ytgklgicfgpemgaa.Lk
