/- Wheel: level, isTime, isName, place. No condition. -/
import Derived.Test.YtaefbibkkkglnaaWhP
import Derived.Test.YtaefbibkkkglnaaProg
import Derived.Test.YtaefbibkkkglnaaWWords
import Derived.Laws.Bits64
import Derived.Deep.QuietTactic
import Derived.BigQuiet
import Derived.Deep.LoopGhost
namespace Go.Proofs.Ytaefbibkkkglnaa.Wh
open Go Go.RowKit Go.Proofs.YtaefbibkkkglnaaW.PrintWords
set_option linter.unusedVariables false
set_option linter.unusedSimpArgs false

def rg (a b : Int) : Nat := ring a.toNat b.toNat
def dg (r : Nat) (a : Int) : Nat := dig r a.toNat
theorem i64_xor (a b : Nat) (ha : a < 9223372036854775808) (hb : b < 9223372036854775808) : bits .xor .i64 (a : Int) (b : Int) = ((a ^^^ b : Nat) : Int) := by
  have hx : a ^^^ b < 2 ^ 63 := Nat.xor_lt_two_pow (by omega) (by omega)
  have h1 : (BitVec.ofInt 64 (a : Int)).toNat = a := by
    rw [BitVec.ofInt_natCast, BitVec.toNat_ofNat]; exact Nat.mod_eq_of_lt (by omega)
  have h2 : (BitVec.ofInt 64 (b : Int)).toNat = b := by
    rw [BitVec.ofInt_natCast, BitVec.toNat_ofNat]; exact Nat.mod_eq_of_lt (by omega)
  show IntKind.i64.wrap ((BitVec.ofInt 64 (a : Int) ^^^ BitVec.ofInt 64 (b : Int)).toNat : Int) = _
  rw [BitVec.toNat_xor, h1, h2]
  simp [IntKind.wrap, IntKind.bits, IntKind.signed]
  omega
theorem lvl_bd (x : Nat) (h : x < 1152921504606846976) : lvl x ≤ 10 := (lvl_le 10 x).2 (Nat.div_eq_of_lt (by omega))
theorem xor_lt {A B : Nat} (hA : A ≤ 1099511627776) (hB : B ≤ 1099511627776) : A ^^^ B < 2199023255552 := by
  have h : A ^^^ B < 2 ^ 41 := Nat.xor_lt_two_pow (by omega) (by omega)
  omega

theorem ret_nat {a b : Nat} (h : a = b) : Ending.returned (.int .i64 (a : Int)) = .returned (.int .i64 (b : Int)) := by rw [h]
set_option maxHeartbeats 400000 in
theorem level_calls (a b : Int) (w : World) (ha : 0 ≤ a) (ha' : a ≤ 1099511627776) (hb : 0 ≤ b) (hb' : b ≤ 1099511627776) :
    Calls Try.prog 30 #[.int .i64 a, .int .i64 b] w fun e w' => e = .returned (.int .i64 (rg a b)) ∧ w = w' := by
  obtain ⟨A, rfl⟩ := Int.eq_ofNat_of_zero_le ha
  obtain ⟨B, rfl⟩ := Int.eq_ofNat_of_zero_le hb
  have hx := i64_xor A B (by omega) (by omega)
  have hX : A ^^^ B < 2199023255552 := xor_lt (by omega) (by omega)
  have HR : Aside0 (rg (A : Int) (B : Int) = lvl ((A ^^^ B) / 64)) := ⟨by unfold rg ring; simp⟩
  generalize A ^^^ B = X at hx hX HR
  generalize rg (A : Int) (B : Int) = R at HR ⊢
  have hR : Aside0 (R ≤ 10) := ⟨by rw [HR.out]; exact lvl_bd _ (by omega)⟩
  go_enter Try.func30, Try.ntmps30
  go_wp2
  go_loopg [5, 6] R (fun kq v5 v6 w' => w = w' ∧ ∃ (n y : Nat), v5 = .int .i64 n ∧ v6 = .int .i64 y ∧ Aside0 (n + lvl y = R) ∧ Aside0 (kq = R - n) ∧ n ≤ 10 ∧ y < 2199023255552)
  case atStart => exact ⟨rfl, 0, X / 64, rfl, by simp, ⟨by rw [HR.out]; omega⟩, ⟨by omega⟩, by omega, by omega⟩
  case round =>
    clear hx
    obtain ⟨rfl, n, y, rfl, rfl, HN, HK, hn, hy⟩ := hrel
    by_cases c : y = 0
    · have c1 : ((y : Int) != 0) = false := by rw [bne_eq_false_iff_eq]; omega
      have hnR := Aside0.mk (show n = R from by have := HN.out; rw [c, lvl_zero] at this; omega)
      clear c
      go_wp2
      go_ret
      exact ⟨ret_nat hnR.out, rfl⟩
    · have c1 : ((y : Int) != 0) = true := by rw [bne_iff_ne]; omega
      have H2 : Aside0 (n + 1 + lvl (y / 64) = R) := ⟨by have := HN.out; rw [lvl_pos c] at this; omega⟩
      clear c
      go_wp2
      go_roundg (R - (n + 1))
      case measure => have := HK.out; have := H2.out; omega
      case rel => exact ⟨rfl, n + 1, y / 64, by go_num, by simp, H2, ⟨rfl⟩, by have := H2.out; have := hR.out; omega, by omega⟩

theorem isTime_calls (n : Int) (w : World) :
    Calls Try.prog 29 #[.int .i64 n] w fun e w' => e = .returned (.bool (decide (0 ≤ n ∧ n ≤ 1099511627776))) ∧ ∃ q, w' = w.drewN q := by
  by_cases h : 0 ≤ n
  · have hd : decide (0 ≤ n) = true := by simpa using h
    go_enter Try.func29, Try.ntmps29
    go_wp2
    all_goals
      (try go_quiet (fail))
      (try go_wp2)
      go_ret
      exact ⟨by simp [h], 0, rfl⟩
  · have hd : decide (0 ≤ n) = false := by simpa using h
    go_enter Try.func29, Try.ntmps29
    go_wp2
    all_goals
      (try go_quiet (fail))
      (try go_wp2)
      go_ret
      exact ⟨by simp [h], 0, rfl⟩
end Go.Proofs.Ytaefbibkkkglnaa.Wh
