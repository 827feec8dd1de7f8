/- Wheel's laws: few, texts, filled. No condition. -/
import Derived.Test.YtaefbibkkkglnaaWhQ
namespace Go.Proofs.Ytaefbibkkkglnaa.Wh
open Go Go.RowKit Go.Proofs.YtaefbibkkkglnaaW.PrintWords Go.Proofs.Ytaefbibkkkglnaa.Mp Go.Proofs.Ytaefbibkkkglnaa.Fr
set_option linter.unusedVariables false
set_option linter.unusedSimpArgs false

theorem few_calls (A : Option Addr) (n c : Nat) (w : World) (hn : n ≤ c) (hl : n ≤ 4611686018427387904) :
    Calls Try.prog 11 #[.slice A n c] w fun e w' => e = .returned (.slice A (min n 400) c) ∧ w = w' := by
  by_cases h : 400 < n
  · have hm : min n 400 = 400 := by omega
    rw [hm]
    have hd : decide (400 < n) = true := by simpa using h
    go_enter Try.func11, Try.ntmps11
    go_wp2
    go_ret
    exact ⟨rfl, rfl⟩
  · have hm : min n 400 = n := by omega
    rw [hm]
    have hd : decide (400 < n) = false := by simpa using h
    go_enter Try.func11, Try.ntmps11
    go_wp2
    go_ret
    exact ⟨rfl, rfl⟩

theorem at_S {w : World} {A : Option Addr} {xs : List ByteArray} (h : Kd.C Kd.string w A xs.length xs) (i : Nat) (hi : i < xs.length) : ∃ ad, A = some ad ∧ w.cell? (ad.add i) = some (.string xs[i]) := by
  obtain ⟨ad, c, e, hc, hK, hcell⟩ := Kd.C_get h xs[i] (i : Int) (by omega) (by omega)
  refine ⟨ad, e, ?_⟩
  have hg : xs.getD (i : Int).toNat xs[i] = xs[i] := by
    rw [Int.toNat_natCast, List.getD_eq_getElem?_getD, List.getElem?_eq_getElem hi]
    rfl
  rw [hg] at hK
  have hK' : c = [.string xs[i]] := hK
  have := hcell 0 _ (by rw [hK']; rfl)
  rw [Int.toNat_natCast] at this
  simpa [Kd.string, Kd.scalar] using this
theorem at_I {w : World} {A : Option Addr} {xs : List Int} (h : Kd.C (Kd.int .i64) w A xs.length xs) (i : Nat) (hi : i < xs.length) : ∃ ad, A = some ad ∧ w.cell? (ad.add i) = some (.int .i64 xs[i]) := by
  obtain ⟨ad, c, e, hc, hK, hcell⟩ := Kd.C_get h xs[i] (i : Int) (by omega) (by omega)
  refine ⟨ad, e, ?_⟩
  have hg : xs.getD (i : Int).toNat xs[i] = xs[i] := by
    rw [Int.toNat_natCast, List.getD_eq_getElem?_getD, List.getElem?_eq_getElem hi]
    rfl
  rw [hg] at hK
  have hK' : c = [.int .i64 xs[i]] := hK
  have := hcell 0 _ (by rw [hK']; rfl)
  rw [Int.toNat_natCast] at this
  simpa [Kd.int, Kd.scalar] using this

/-- texts: two lists that read alike. -/
theorem texts_calls (A B : Option Addr) (c d : Nat) (xs : List ByteArray) (w : World) (ha : Kd.C Kd.string w A xs.length xs) (hb : Kd.C Kd.string w B xs.length xs) (hc : xs.length ≤ c) (hd : xs.length ≤ d) (hl : xs.length < 4611686018427387904) :
    Calls Try.prog 16 #[.slice A xs.length c, .slice B xs.length d] w fun e w' => e = .returned (.bool true) ∧ ∃ q, w' = w.drewN q := by
  have HA := Aside0.mk ha
  have HB := Aside0.mk hb
  clear ha hb
  go_enter Try.func16, Try.ntmps16
  go_wp2_with fail
  go_loopg [5] xs.length (fun g v5 wx => ∃ i : Nat, i ≤ xs.length ∧ g = xs.length - i ∧ v5 = .int .i64 i ∧ Aside0 (∃ q, wx = w.drewN q))
  case atStart => exact ⟨0, by omega, rfl, rfl, ⟨0, rfl⟩⟩
  case round =>
    obtain ⟨i, hi, rfl, rfl, HW⟩ := hrel
    by_cases h : i < xs.length
    · obtain ⟨q, rfl⟩ := HW.out
      obtain ⟨ad, rfl, c1⟩ := at_S HA.out i h
      obtain ⟨bd, rfl, c2⟩ := at_S HB.out i h
      have i0 : (0 : Int) ≤ (i : Int) := by omega
      have i1 : (i : Int) < (xs.length : Int) := by omega
      have e1 : (xs[i].toList == xs[i].toList) = true := by simp
      have e2 : (xs[i].toList != xs[i].toList) = false := by simp
      generalize xs[i] = x at *
      go_wp2_with fail
      (try go_quiet (fail))
      (try go_wp2_with fail)
      go_roundg (xs.length - (i + 1))
      case measure => omega
      case rel => exact ⟨i + 1, by omega, rfl, by go_num, ⟨_, rfl⟩⟩
    · obtain rfl : i = xs.length := by omega
      go_wp2_with fail
      go_ret
      exact ⟨rfl, HW.out⟩
end Go.Proofs.Ytaefbibkkkglnaa.Wh
