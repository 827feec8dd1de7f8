/- sameInts of two equal lists; readings of strings. No condition. -/
import Derived.Test.YtcejkpjinmolhaaDoorDrSetLaw
namespace Go.Proofs.YtcejkpjinmolhaaDoor.Dr
open Go Go.RowKit Go.Proofs.YtcejkpjinmolhaaDoorW.PrintWords Go.Proofs.YtcejkpjinmolhaaDoorW.PrintLast Go.Proofs.YtcejkpjinmolhaaDoorW.PrintMore Go.Proofs.YtcejkpjinmolhaaDoor.PLockStripes
set_option linter.unusedVariables false
set_option linter.unusedSimpArgs false

theorem at_num {w : World} {A : Option Addr} {xs : List Int} (h : Kd.C (Kd.int .i64) w A xs.length xs) (i : Nat) (hi : i < xs.length) : ∃ ad, A = some ad ∧ w.cell? (ad.add i) = some (.int .i64 xs[i]) := by
  obtain ⟨ad, c, e, hl, hK, hc⟩ := Kd.C_get h (0 : Int) (i : Int) (by omega) (by omega)
  rw [Int.toNat_natCast] at *
  rw [show xs.getD i 0 = xs[i] by rw [List.getD_eq_getElem?_getD, List.getElem?_eq_getElem hi]; rfl] at hK
  have hK' : c = [.int .i64 xs[i]] := hK
  subst hK'
  refine ⟨ad, e, ?_⟩
  have := hc 0 _ rfl
  rw [show i * (Kd.int .i64).sz + 0 = i from by show i * 1 + 0 = i; omega] at this
  exact this

set_option maxRecDepth 100000 in
set_option maxHeartbeats 4000000 in
theorem same_calls (A B : Option Addr) (c d : Nat) (xs : List Int) (w : World) (ha : Kd.C (Kd.int .i64) w A xs.length xs) (hb : Kd.C (Kd.int .i64) w B xs.length xs) (hc : xs.length ≤ c) (hd : xs.length ≤ d) (hl : xs.length < 4611686018427387904) :
    Calls Tryd.prog 10 #[.slice A xs.length c, .slice B xs.length d] w fun e w' => e = .returned (.bool true) ∧ Below w.heap.size w w' := by
  have HA := Aside0.mk ha
  have HB := Aside0.mk hb
  clear ha hb
  go_enter Tryd.func10, Tryd.ntmps10
  go_wp2_with fail
  go_loopw [4, 5] (fun v4 v5 wr => ∃ k : Nat, k ≤ xs.length ∧ v5 = .int .i64 k ∧ Aside0 (Below w.heap.size w wr)) (fun _ v5 _ => xs.length - (intOf v5).toNat)
  case atStart => exact ⟨0, Nat.zero_le _, rfl, ⟨Below.refl _ _⟩⟩
  case round =>
    obtain ⟨k, hk, rfl, B5⟩ := hrel
    by_cases hlt : k < xs.length
    · obtain ⟨ad, eA, hcA⟩ := at_num (Kd.C_below HA.out B5.out) k hlt
      obtain ⟨bd, eB, hcB⟩ := at_num (Kd.C_below HB.out B5.out) k hlt
      generalize xs[k] = s at *
      subst eA eB
      have i0 : (0 : Int) ≤ (k : Int) := by omega
      have i1 : (k : Int) < (xs.length : Int) := by omega
      have d1 : (s != s) = false := by simp
      go_wp2_with fail
      go_quiet (fail)
      go_wp2_with fail
      go_roundw
      case rel => exact ⟨k + 1, by omega, by go_num, ⟨by first | exact B5.out | exact pw_below_drewN B5.out _⟩⟩
      case measure => simp [intOf]; omega
    · obtain rfl : k = xs.length := by omega
      go_wp2_with fail
      go_ret
      exact ⟨rfl, B5.out⟩
end Go.Proofs.YtcejkpjinmolhaaDoor.Dr
