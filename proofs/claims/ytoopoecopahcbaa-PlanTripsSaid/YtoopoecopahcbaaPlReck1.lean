/- plan.fault, larderref17.history, Stats. No condition. -/
import Derived.Test.YtoopoecopahcbaaFl6
import Derived.Test.YtoopoecopahcbaaWWords
import Derived.Test.YtoopoecopahcbaaWMore
import Derived.Deep.DeepCutAuto
namespace Go.Proofs.Ytoopoecopahcbaa.Fl
open Go Go.RowKit Ieee Go.Proofs.YtoopoecopahcbaaW.PrintWords
set_option linter.unusedVariables false
set_option linter.unusedSimpArgs false

theorem at_num {w : World} {A : Option Addr} {xs : List Int} (h : Kd.C (Kd.int .i64) w A xs.length xs) (i : Nat) (hi : i < xs.length) : ∃ ad, A = some ad ∧ w.cell? (ad.add i) = some (.int .i64 xs[i]) := by
  obtain ⟨ad, c, e, hl, hK, hc⟩ := Kd.C_get h (0 : Int) (i : Int) (by omega) (by omega)
  rw [Int.toNat_natCast] at *
  rw [show xs.getD i 0 = xs[i] by rw [List.getD_eq_getElem?_getD, List.getElem?_eq_getElem hi]; rfl] at hK
  have hK' : c = [.int .i64 xs[i]] := hK
  subst hK'
  refine ⟨ad, e, ?_⟩
  have := hc 0 _ rfl
  rw [show i * (Kd.int .i64).sz + 0 = i from by show i * 1 + 0 = i; omega] at this
  exact this
def goodZ (z : Int) : Bool := decide (0 ≤ z) && decide (z ≤ 1099511627776)
theorem fault_long {zs : List Int} (h : zs.length > 4096) : faultF zs = 1 := by unfold faultF; rw [if_pos h]
theorem fault_bad {zs : List Int} (h : ¬ zs.length > 4096) {k : Nat} (hk : k < zs.length) (hb : goodZ zs[k] = false) : faultF zs = 172 := by
  unfold faultF
  rw [if_neg h, if_neg]
  intro ha
  have := List.all_eq_true.1 ha zs[k] (List.getElem_mem hk)
  unfold goodZ at hb
  rw [hb] at this
  cases this
theorem fault_all {zs : List Int} (h : ¬ zs.length > 4096) (hg : ∀ k, (hk : k < zs.length) → goodZ zs[k] = true) : faultF zs = 0 := by
  unfold faultF
  rw [if_neg h, if_pos]
  rw [List.all_eq_true]
  intro z hz
  obtain ⟨k, hk, rfl⟩ := List.mem_iff_getElem.1 hz
  exact hg k hk
theorem good_succ {zs : List Int} {k : Nat} (h : ∀ j, (hj : j < k) → (hk : j < zs.length) → goodZ zs[j] = true) (hk : k < zs.length) (hg : goodZ zs[k] = true) : ∀ j, (hj : j < k + 1) → (hk : j < zs.length) → goodZ zs[j] = true := by
  intro j hj hl
  rcases Nat.lt_or_ge j k with h1 | h1
  · exact h j h1 hl
  · obtain rfl : j = k := by omega
    exact hg

set_option maxRecDepth 100000 in
set_option maxHeartbeats 4000000 in
theorem fault_calls (A : Option Addr) (c : Nat) (zs : List Int) (w : World) (ha : Kd.C (Kd.int .i64) w A zs.length zs) (hc : zs.length ≤ c) (hl : zs.length < 4611686018427387904) :
    Calls Try.prog 54 #[.slice A zs.length c] w fun e w' => e = .returned (.int .i64 (faultF zs)) ∧ w = w' := by
  have HA := Aside0.mk ha
  clear ha
  by_cases h1 : zs.length > 4096
  · have d1 : decide ((zs.length : Int) > 4096) = true := decide_eq_true (by omega)
    have d2 : decide (4096 < zs.length) = true := decide_eq_true h1
    have HF := Aside0.mk (fault_long h1)
    clear h1
    go_enter Try.func54, Try.ntmps54
    go_wp2_with fail
    go_ret
    exact ⟨by rw [HF.out]; rfl, rfl⟩
  · have d1 : decide ((zs.length : Int) > 4096) = false := decide_eq_false (by omega)
    have d2 : decide (4096 < zs.length) = false := decide_eq_false h1
    go_enter Try.func54, Try.ntmps54
    go_wp2_with fail
    go_loopw [4, 10] (fun v4 v10 wr => ∃ k : Nat, k ≤ zs.length ∧ v10 = .int .i64 k ∧ wr = w ∧ Aside0 (∀ j, (hj : j < k) → (hk : j < zs.length) → goodZ zs[j] = true)) (fun _ v10 _ => zs.length - (intOf v10).toNat)
    case atStart => exact ⟨0, Nat.zero_le _, rfl, rfl, ⟨fun j hj => by omega⟩⟩
    case round =>
      obtain ⟨k, hk, rfl, rfl, HG⟩ := hrel
      by_cases hlt : k < zs.length
      · obtain ⟨ad, eA, hcA⟩ := at_num HA.out k hlt
        have HN := Aside0.mk (show ∀ b, goodZ zs[k] = b → b = true → ∀ j, (hj : j < k + 1) → (hk : j < zs.length) → goodZ zs[j] = true from fun b h1 h2 => good_succ HG.out hlt (h1.trans h2))
        have HB := Aside0.mk (show goodZ zs[k] = false → faultF zs = 172 from fun h => fault_bad h1 hlt h)
        have HW := Aside0.mk (show ∀ w, _ from fun w => pwithin_calls zs[k] 0 1099511627776 w)
        have hdef : goodZ zs[k] = (decide (0 ≤ zs[k]) && decide (zs[k] ≤ 1099511627776)) := rfl
        rw [← hdef] at HW
        clear hdef
        generalize hb : goodZ zs[k] = b at *
        have HN' := Aside0.mk (HN.out b rfl)
        clear HN hb
        generalize zs[k] = z at *
        subst eA
        have i0 : (0 : Int) ≤ (k : Int) := by omega
        have i1 : (k : Int) < (zs.length : Int) := by omega
        cases b
        · have HB' := Aside0.mk (HB.out rfl)
          clear HB HN'
          go_wp2_with (first | (go_at_call 42; refine (HW.out _).mono ?_; rintro e w1 ⟨rfl, rfl⟩))
          go_ret
          exact ⟨by rw [HB'.out]; rfl, rfl⟩
        · have HN := Aside0.mk (HN'.out rfl)
          clear HB HN'
          go_wp2_with (first | (go_at_call 42; refine (HW.out _).mono ?_; rintro e w1 ⟨rfl, rfl⟩))
          go_roundw
          case rel => exact ⟨k + 1, by omega, by go_num, by first | rfl | trivial, HN⟩
          case measure => simp [intOf]; omega
      · obtain rfl : k = zs.length := by omega
        have HF := Aside0.mk (fault_all h1 (fun j hj => HG.out j hj hj))
        go_wp2_with fail
        go_ret
        exact ⟨by rw [HF.out]; rfl, rfl⟩

set_option maxRecDepth 100000 in
set_option maxHeartbeats 4000000 in
theorem history_calls (A : Option Addr) (c : Nat) (zs : List Int) (w : World) (ha : Kd.C (Kd.int .i64) w A zs.length zs) (hc : zs.length ≤ c) (hl : zs.length < 4611686018427387904) :
    Calls Try.prog 56 #[.slice A zs.length c] w fun e w' => e = .returned (.int .i64 (faultF zs)) ∧ w = w' := by
  have HA := Aside0.mk ha
  clear ha
  by_cases h1 : zs.length > 4096
  · have d1 : decide ((zs.length : Int) > 4096) = true := decide_eq_true (by omega)
    have d2 : decide (4096 < zs.length) = true := decide_eq_true h1
    have HF := Aside0.mk (fault_long h1)
    clear h1
    go_enter Try.func56, Try.ntmps56
    go_wp2_with fail
    go_ret
    exact ⟨by rw [HF.out]; rfl, rfl⟩
  · have d1 : decide ((zs.length : Int) > 4096) = false := decide_eq_false (by omega)
    have d2 : decide (4096 < zs.length) = false := decide_eq_false h1
    go_enter Try.func56, Try.ntmps56
    go_wp2_with fail
    go_loopw [3] (fun v3 wr => ∃ k : Nat, k ≤ zs.length ∧ v3 = .int .i64 k ∧ wr = w ∧ Aside0 (∀ j, (hj : j < k) → (hk : j < zs.length) → goodZ zs[j] = true)) (fun v3 _ => zs.length - (intOf v3).toNat)
    case atStart => exact ⟨0, Nat.zero_le _, rfl, rfl, ⟨fun j hj => by omega⟩⟩
    case round =>
      obtain ⟨k, hk, rfl, rfl, HG⟩ := hrel
      by_cases hlt : k < zs.length
      · obtain ⟨ad, eA, hcA⟩ := at_num HA.out k hlt
        have i0 : (0 : Int) ≤ (k : Int) := by omega
        have i1 : (k : Int) < (zs.length : Int) := by omega
        by_cases g1 : zs[k] < 0
        · have HB := Aside0.mk (fault_bad h1 hlt (show goodZ zs[k] = false by unfold goodZ; rw [decide_eq_false (by omega)]; rfl))
          have e1 : decide (zs[k] < 0) = true := decide_eq_true g1
          generalize zs[k] = z at *
          subst eA
          go_wp2_with fail
          go_ret
          exact ⟨by rw [HB.out]; rfl, rfl⟩
        · by_cases g2 : zs[k] > 1099511627776
          · have HB := Aside0.mk (fault_bad h1 hlt (show goodZ zs[k] = false by unfold goodZ; rw [decide_eq_true (show 0 ≤ zs[k] by omega), decide_eq_false (by omega)]; rfl))
            have e1 : decide (zs[k] < 0) = false := decide_eq_false g1
            have e2 : decide (zs[k] > 1099511627776) = true := decide_eq_true g2
            generalize zs[k] = z at *
            subst eA
            go_wp2_with fail
            go_ret
            exact ⟨by rw [HB.out]; rfl, rfl⟩
          · have HN := Aside0.mk (good_succ HG.out hlt (show goodZ zs[k] = true by unfold goodZ; rw [decide_eq_true (show 0 ≤ zs[k] by omega), decide_eq_true (by omega)]; rfl))
            have e1 : decide (zs[k] < 0) = false := decide_eq_false g1
            have e2 : decide (zs[k] > 1099511627776) = false := decide_eq_false g2
            generalize zs[k] = z at *
            subst eA
            go_wp2_with fail
            go_roundw
            case rel => exact ⟨k + 1, by omega, by go_num, by first | rfl | trivial, HN⟩
            case measure => simp [intOf]; omega
      · obtain rfl : k = zs.length := by omega
        have HF := Aside0.mk (fault_all h1 (fun j hj => HG.out j hj hj))
        go_wp2_with fail
        go_ret
        exact ⟨by rw [HF.out]; rfl, rfl⟩
end Go.Proofs.Ytoopoecopahcbaa.Fl
