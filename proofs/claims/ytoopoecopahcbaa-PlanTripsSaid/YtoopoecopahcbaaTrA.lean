/- plan.Trip: the functions that it calls. No condition. -/
import Derived.Test.YtoopoecopahcbaaPlPoint
import Derived.Test.YtoopoecopahcbaaWWords
import Derived.Test.YtoopoecopahcbaaWMore
import Derived.Deep.DeepCutAuto
import Derived.Deep.CutBlock
namespace Go.Proofs.Ytoopoecopahcbaa.Tr
open Go Go.RowKit Go.Proofs.YtoopoecopahcbaaW.PrintWords Go.Proofs.YtoopoecopahcbaaW.PrintLast Go.Proofs.YtoopoecopahcbaaW.PrintMore
open Go.Proofs.Ytoopoecopahcbaa.Fl (pwithin_calls)
set_option linter.unusedVariables false
set_option linter.unusedSimpArgs false

theorem at_int {w : World} {A : Option Addr} {xs : List Int} (h : Kd.C (Kd.int .i64) w A xs.length xs) (i : Nat) (hi : i < xs.length) : ∃ ad, A = some ad ∧ w.cell? (ad.add i) = some (.int .i64 xs[i]) := by
  obtain ⟨ad, c, e, hl, hK, hc⟩ := Kd.C_get h (0 : Int) (i : Int) (by omega) (by omega)
  rw [Int.toNat_natCast] at *
  rw [show xs.getD i 0 = xs[i] by rw [List.getD_eq_getElem?_getD, List.getElem?_eq_getElem hi]; rfl] at hK
  have hK' : c = [.int .i64 xs[i]] := hK
  subst hK'
  refine ⟨ad, e, ?_⟩
  have := hc 0 _ rfl
  rw [show i * (Kd.int .i64).sz + 0 = i from by show i * 1 + 0 = i; omega] at this
  exact this
def goodF (x : Int) : Bool := decide (0 ≤ x) && decide (x ≤ 1000000000)
theorem far_calls (x : Int) (w : World) : Calls Try.prog 50 #[.int .i64 x] w fun e w' => e = .returned (.bool (!goodF x)) ∧ w = w' := by
  have HW := Aside0.mk (fun w => pwithin_calls x 0 1000000000 w)
  have HG := Aside0.mk (show (decide (0 ≤ x) && decide (x ≤ 1000000000)) = goodF x from rfl)
  rw [HG.out] at HW
  go_enter Try.func50, Try.ntmps50
  go_wp2_with (first | (go_at_call 42; refine (HW.out _).mono ?_; rintro e w1 ⟨rfl, rfl⟩))
  go_ret
  exact ⟨rfl, rfl⟩
def badRow (l : List Int) : Bool := l.any (fun x => !goodF x)
def FoundPost (l : List Int) (w : World) (e : Ending) (w' : World) : Prop := ∃ r : Int, e = .returned (.int .i64 r) ∧ decide (0 ≤ r) = badRow l ∧ w = w'
abbrev farV : Value := .func (.func 50) #[] #[]
set_option maxRecDepth 100000 in
theorem index_calls (A : Option Addr) (c : Nat) (l : List Int) (w : World) (ha : Kd.C (Kd.int .i64) w A l.length l) (hc : l.length ≤ c) (hl : l.length < 4611686018427387904) :
    Calls Try.prog 67 #[.slice A l.length c, farV] w (FoundPost l w) := by
  have HA := Aside0.mk ha
  clear ha
  go_enter Try.func67, Try.ntmps67
  go_wp2_with fail
  go_loop [5, 8] (fun v5 v8 => ∃ k : Nat, k ≤ l.length ∧ v8 = .int .i64 k ∧ Aside0 (∀ j, (hj : j < k) → (hk : j < l.length) → goodF l[j] = true)) (fun _ v8 => l.length - (intOf v8).toNat)
  case atStart => exact ⟨0, Nat.zero_le _, rfl, ⟨fun j hj => by omega⟩⟩
  case round =>
    obtain ⟨k, hk, rfl, HG⟩ := hrel
    by_cases hlt : k < l.length
    · obtain ⟨ad, eA, hcA⟩ := at_int HA.out k hlt
      have HF := Aside0.mk (fun w => far_calls l[k] w)
      obtain ⟨b, hb⟩ : ∃ b, goodF l[k] = b := ⟨_, rfl⟩
      rw [hb] at HF
      have HB := Aside0.mk hb
      clear hb
      subst eA
      have i0 : (0 : Int) ≤ (k : Int) := by omega
      have i1 : (k : Int) < (l.length : Int) := by omega
      cases b
      · go_wp2_with (first | (go_at_call 50; refine (HF.out _).mono ?_; rintro e w1 ⟨rfl, rfl⟩))
        go_ret
        refine ⟨k, rfl, ?_, rfl⟩
        rw [decide_eq_true (by omega)]
        refine (List.any_eq_true.2 ⟨l[k], List.getElem_mem hlt, ?_⟩).symm
        rw [HB.out]
        rfl
      · have HN := Aside0.mk (show ∀ j, (hj : j < k + 1) → (hk : j < l.length) → goodF l[j] = true from fun j hj hk' => by
          rcases Nat.lt_or_ge j k with h | h
          · exact HG.out j h hk'
          · obtain rfl : j = k := by omega
            exact HB.out)
        clear HG
        go_wp2_with (first | (go_at_call 50; refine (HF.out _).mono ?_; rintro e w1 ⟨rfl, rfl⟩))
        go_round
        case rel => exact ⟨k + 1, by omega, by go_num, HN⟩
        case measure => simp [intOf]; omega
    · obtain rfl : k = l.length := by omega
      go_wp2_with fail
      go_ret
      refine ⟨-1, rfl, ?_, rfl⟩
      rw [decide_eq_false (by omega)]
      refine (Bool.eq_false_iff.2 fun h => ?_).symm
      obtain ⟨x, hx, hb⟩ := List.any_eq_true.1 h
      obtain ⟨j, hj, rfl⟩ := List.getElem_of_mem hx
      rw [HG.out j hj hj] at hb
      cases hb
set_option maxRecDepth 100000 in
theorem contains_calls (A : Option Addr) (c : Nat) (l : List Int) (w : World) (ha : Kd.C (Kd.int .i64) w A l.length l) (hc : l.length ≤ c) (hl : l.length < 4611686018427387904) :
    Calls Try.prog 49 #[.slice A l.length c, farV] w fun e w' => e = .returned (.bool (badRow l)) ∧ w = w' := by
  have HI := Aside0.mk (index_calls A c l w ha hc hl)
  clear ha
  go_enter Try.func49, Try.ntmps49
  go_wp2_with (first | (go_at_call 67; refine (HI.out).mono ?_; rintro e w1 ⟨r, rfl, hr, rfl⟩; have HR := Aside0.mk hr; clear hr))
  go_ret
  exact ⟨by rw [← HR.out]; simp, rfl⟩
def cmpI (a b : Int) : Int := if a < b then -1 else if b < a then 1 else 0
theorem isnan_calls (a : Int) (w : World) : Calls Try.prog 68 #[.int .i64 a] w fun e w' => e = .returned (.bool false) ∧ w = w' := by
  have d1 : (a != a) = false := by simp
  go_enter Try.func68, Try.ntmps68
  go_wp2_with fail
  go_ret
  exact ⟨by simp, rfl⟩
theorem cmp_calls (a b : Int) (w : World) : Calls Try.prog 53 #[.int .i64 a, .int .i64 b] w fun e w' => e = .returned (.int .i64 (cmpI a b)) ∧ w = w' := by
  have H1 := Aside0.mk (fun w => isnan_calls a w)
  have H2 := Aside0.mk (fun w => isnan_calls b w)
  unfold cmpI
  rcases Int.lt_trichotomy a b with h | h | h
  · rw [if_pos h]
    go_enter Try.func53, Try.ntmps53
    go_wp2_with (first | (go_at_call_of 68 (Value.int IntKind.i64 a); refine (H1.out _).mono ?_; rintro e w1 ⟨rfl, rfl⟩) | (go_at_call 68; refine (H2.out _).mono ?_; rintro e w1 ⟨rfl, rfl⟩))
    go_ret
    exact ⟨rfl, rfl⟩
  · subst h
    rw [if_neg (by omega), if_neg (by omega)]
    have d1 : ¬ a < a := by omega
    go_enter Try.func53, Try.ntmps53
    go_wp2_with (first | (go_at_call 68; refine (H1.out _).mono ?_; rintro e w1 ⟨rfl, rfl⟩))
    go_ret
    exact ⟨rfl, rfl⟩
  · have d1 : ¬ a < b := by omega
    rw [if_neg d1, if_pos h]
    go_enter Try.func53, Try.ntmps53
    go_wp2_with (first | (go_at_call_of 68 (Value.int IntKind.i64 a); refine (H1.out _).mono ?_; rintro e w1 ⟨rfl, rfl⟩) | (go_at_call 68; refine (H2.out _).mono ?_; rintro e w1 ⟨rfl, rfl⟩))
    go_ret
    exact ⟨rfl, rfl⟩
abbrev Leg := Int × Int
def better (a b : Leg) : Bool := decide (a.1 < b.1) || (decide (a.1 = b.1) && decide (a.2 < b.2))
def cmpL (a b : Leg) : Int := if a.1 = b.1 then cmpI a.2 b.2 else cmpI a.1 b.1
theorem cmpL_neg (a b : Leg) : decide (cmpL a b < 0) = better a b := by
  unfold cmpL better cmpI
  rcases Int.lt_trichotomy a.1 b.1 with h | h | h
  · rw [if_neg (by omega), if_pos h, decide_eq_true h]; rfl
  · rw [if_pos h, decide_eq_false (show ¬ a.1 < b.1 by omega), decide_eq_true h, Bool.false_or, Bool.true_and]
    split
    · rename_i h2; rw [decide_eq_true h2]; rfl
    · rename_i h2
      rw [decide_eq_false h2]
      split <;> rfl
  · rw [if_neg (by omega), if_neg (by omega), if_pos h, decide_eq_false (show ¬ a.1 < b.1 by omega), decide_eq_false (show ¬ a.1 = b.1 by omega)]; rfl
theorem order_calls (a b : Leg) (w : World) : Calls Try.prog 52 #[.agg #[.int .i64 a.1, .int .i64 a.2], .agg #[.int .i64 b.1, .int .i64 b.2]] w fun e w' => e = .returned (.int .i64 (cmpL a b)) ∧ Below w.heap.size w w' := by
  have H1 := Aside0.mk (fun w => cmp_calls a.1 b.1 w)
  have H2 := Aside0.mk (fun w => cmp_calls a.2 b.2 w)
  unfold cmpL
  generalize cmpI a.1 b.1 = x1 at *
  generalize cmpI a.2 b.2 = x2 at *
  by_cases h : a.1 = b.1
  · rw [if_pos h]
    rw [h]
    have d1 : (b.1 != b.1) = false := by simp
    go_enter Try.func52, Try.ntmps52
    go_wp2_with (first | (go_at_call 53; refine (H2.out _).mono ?_; rintro e w1 ⟨rfl, rfl⟩))
    go_ret
    exact ⟨rfl, ((Below.refl _ _).alloc (Nat.le_refl _) _).alloc (by simp) _⟩
  · rw [if_neg h]
    have d1 : (a.1 != b.1) = true := by simpa using h
    go_enter Try.func52, Try.ntmps52
    go_wp2_with (first | (go_at_call 53; refine (H1.out _).mono ?_; rintro e w1 ⟨rfl, rfl⟩))
    go_ret
    exact ⟨rfl, ((Below.refl _ _).alloc (Nat.le_refl _) _).alloc (by simp) _⟩
end Go.Proofs.Ytoopoecopahcbaa.Tr
