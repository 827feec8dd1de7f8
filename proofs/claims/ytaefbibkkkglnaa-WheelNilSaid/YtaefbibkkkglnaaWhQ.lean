/- Wheel's laws: within, name, few, texts. No condition. -/
import Derived.Test.YtaefbibkkkglnaaWhZ
import Derived.Test.YtaefbibkkkglnaaWLast
import Derived.Laws.Slices
import Derived.Laws.Concat
import Derived.Laws.BytesArg
import Derived.WideLaws
namespace Go.Proofs.Ytaefbibkkkglnaa.Wh
open Go Go.RowKit Go.Proofs.YtaefbibkkkglnaaW.PrintWords Go.Proofs.Ytaefbibkkkglnaa.Mp Go.Proofs.Ytaefbibkkkglnaa.Fr
set_option linter.unusedVariables false
set_option linter.unusedSimpArgs false

/-! ### within -/
def nn (x : Int) : Int := if x < 0 then -(x + 1) else x
def winF (x lo hi : Int) : Int := lo + nn x % (hi - lo + 1)
theorem nn_bd {x : Int} (h0 : -9223372036854775808 ≤ x) (h1 : x ≤ 9223372036854775807) : 0 ≤ nn x ∧ nn x ≤ 9223372036854775807 := by
  unfold nn
  split <;> omega
theorem winF_bd {x lo hi : Int} (h0 : -9223372036854775808 ≤ x) (h1 : x ≤ 9223372036854775807) (h : lo ≤ hi) : lo ≤ winF x lo hi ∧ winF x lo hi ≤ hi := by
  have h2 := (nn_bd h0 h1).1
  unfold winF
  have h3 := Int.emod_nonneg (nn x) (b := hi - lo + 1) (by omega)
  have h4 := Int.emod_lt_of_pos (nn x) (b := hi - lo + 1) (by omega)
  omega
theorem ret_i {a b : Int} (h : a = b) : Ending.returned (.int .i64 a) = .returned (.int .i64 b) := by rw [h]
theorem within_calls (x lo hi : Int) (w : World) (h0 : -9223372036854775808 ≤ x) (h1 : x ≤ 9223372036854775807) (hl : 0 ≤ lo) (hlh : lo ≤ hi) (hh : hi ≤ 4611686018427387904) :
    Calls Try.prog 10 #[.int .i64 x, .int .i64 lo, .int .i64 hi] w fun e w' => e = .returned (.int .i64 (winF x lo hi)) ∧ w = w' := by
  have e1 : IntKind.i64.wrap (hi - lo) = hi - lo := IntWalk.i64_in _ (by omega)
  have e2 : IntKind.i64.wrap (hi - lo + 1) = hi - lo + 1 := IntWalk.i64_in _ (by omega)
  have hne : ((hi - lo + 1) == 0) = false := by rw [beq_eq_false_iff_ne]; omega
  have hbd := winF_bd (x := x) h0 h1 hlh
  by_cases hx : x < 0
  · have hd : decide (x < 0) = true := by simpa using hx
    have hq : winF x lo hi = lo + (-(x + 1)) % (hi - lo + 1) := by unfold winF nn; rw [if_pos hx]
    have hn0 : 0 ≤ -(x + 1) := by omega
    have e3 : IntKind.i64.wrap (lo + (-(x + 1)) % (hi - lo + 1)) = lo + (-(x + 1)) % (hi - lo + 1) := IntWalk.i64_in _ (by rw [← hq]; omega)
    have e5 : wrap64 (-(x + 1)) = -(x + 1) := by unfold wrap64; omega
    have HQ := Aside0.mk hq
    clear hq hbd
    go_enter Try.func10, Try.ntmps10
    go_wp2
    go_ret
    refine ⟨ret_i ?_, rfl⟩
    have hb := winF_bd (x := x) h0 h1 hlh
    rw [HQ.out] at hb ⊢
    rw [← Int.neg_tmod, Int.tmod_eq_emod_of_nonneg hn0]
    unfold wrap64
    omega
  · have hd : decide (x < 0) = false := by simpa using hx
    have hq : winF x lo hi = lo + x % (hi - lo + 1) := by unfold winF nn; rw [if_neg hx]
    have hn0 : 0 ≤ x := by omega
    have e3 : IntKind.i64.wrap (lo + x % (hi - lo + 1)) = lo + x % (hi - lo + 1) := IntWalk.i64_in _ (by rw [← hq]; omega)
    have HQ := Aside0.mk hq
    clear hq hbd
    go_enter Try.func10, Try.ntmps10
    go_wp2
    go_ret
    exact ⟨ret_i HQ.out.symm, rfl⟩

/-! ### name -/
def letters : ByteArray := ⟨#[97, 98, 99, 100, 101, 102, 103, 104, 105, 106, 107, 108, 109, 110, 111, 112, 113, 114, 115, 116, 117, 118, 119, 120, 121, 122]⟩
def nm (n : Nat) : ByteArray := (letters.extract (n / 676 % 26) (n / 676 % 26 + 1) ++ letters.extract (n / 26 % 26) (n / 26 % 26 + 1)) ++ letters.extract (n % 26) (n % 26 + 1)
def dn (s : ByteArray) : Nat := match s.data.toList with
  | [a, b, c] => (a.toNat - 97) * 676 + (b.toNat - 97) * 26 + (c.toNat - 97)
  | _ => 0
def nmOk (n : Nat) : Bool := (nm n).size == 3 && dn (nm n) == n
theorem nm_all : (List.range 401).all nmOk = true := by kernel_rfl
theorem nm_ok {n : Nat} (h : n ≤ 400) : (nm n).size = 3 ∧ dn (nm n) = n := by
  have := List.all_eq_true.1 nm_all n (by simp; omega)
  unfold nmOk at this
  simpa using this
theorem nm_inj {a b : Nat} (ha : a ≤ 400) (hb : b ≤ 400) (h : nm a = nm b) : a = b := by
  rw [← (nm_ok ha).2, h, (nm_ok hb).2]
theorem nm_good {n : Nat} (h : n ≤ 400) : nameB (nm n) = true := by
  unfold nameB
  rw [(nm_ok h).1]
  decide
theorem name_walk (a0 ji2 ji6 ji11 : Int) (w : World) (hji2 : Int.tmod (IntKind.i64.wrap (Int.tdiv a0 676)) 26 = ji2) (hji6 : Int.tmod (IntKind.i64.wrap (Int.tdiv a0 26)) 26 = ji6) (hji11 : Int.tmod a0 26 = ji11)
    (c3 : 0 ≤ ji2) (c4 : ji2 ≤ IntKind.i64.wrap (ji2 + 1)) (c5 : IntKind.i64.wrap (ji2 + 1) ≤ 26) (c7 : 0 ≤ ji6) (c8 : ji6 ≤ IntKind.i64.wrap (ji6 + 1)) (c9 : IntKind.i64.wrap (ji6 + 1) ≤ 26) (c12 : 0 ≤ ji11) (c13 : ji11 ≤ IntKind.i64.wrap (ji11 + 1)) (c14 : IntKind.i64.wrap (ji11 + 1) ≤ 26)
    (c10 : ((⟨#[97, 98, 99, 100, 101, 102, 103, 104, 105, 106, 107, 108, 109, 110, 111, 112, 113, 114, 115, 116, 117, 118, 119, 120, 121, 122]⟩ : ByteArray).extract (ji2 : Int).toNat (IntKind.i64.wrap (ji2 + 1)).toNat).size + ((⟨#[97, 98, 99, 100, 101, 102, 103, 104, 105, 106, 107, 108, 109, 110, 111, 112, 113, 114, 115, 116, 117, 118, 119, 120, 121, 122]⟩ : ByteArray).extract (ji6 : Int).toNat (IntKind.i64.wrap (ji6 + 1)).toNat).size ≤ 9223372036854775807) (c15 : (((⟨#[97, 98, 99, 100, 101, 102, 103, 104, 105, 106, 107, 108, 109, 110, 111, 112, 113, 114, 115, 116, 117, 118, 119, 120, 121, 122]⟩ : ByteArray).extract (ji2 : Int).toNat (IntKind.i64.wrap (ji2 + 1)).toNat) ++ ((⟨#[97, 98, 99, 100, 101, 102, 103, 104, 105, 106, 107, 108, 109, 110, 111, 112, 113, 114, 115, 116, 117, 118, 119, 120, 121, 122]⟩ : ByteArray).extract (ji6 : Int).toNat (IntKind.i64.wrap (ji6 + 1)).toNat)).size + ((⟨#[97, 98, 99, 100, 101, 102, 103, 104, 105, 106, 107, 108, 109, 110, 111, 112, 113, 114, 115, 116, 117, 118, 119, 120, 121, 122]⟩ : ByteArray).extract (ji11 : Int).toNat (IntKind.i64.wrap (ji11 + 1)).toNat).size ≤ 9223372036854775807) :
    Calls Try.prog 15 #[.int .i64 a0] w fun e w' => e = .returned (.string ((((⟨#[97, 98, 99, 100, 101, 102, 103, 104, 105, 106, 107, 108, 109, 110, 111, 112, 113, 114, 115, 116, 117, 118, 119, 120, 121, 122]⟩ : ByteArray).extract (ji2 : Int).toNat (IntKind.i64.wrap (ji2 + 1)).toNat) ++ ((⟨#[97, 98, 99, 100, 101, 102, 103, 104, 105, 106, 107, 108, 109, 110, 111, 112, 113, 114, 115, 116, 117, 118, 119, 120, 121, 122]⟩ : ByteArray).extract (ji6 : Int).toNat (IntKind.i64.wrap (ji6 + 1)).toNat)) ++ ((⟨#[97, 98, 99, 100, 101, 102, 103, 104, 105, 106, 107, 108, 109, 110, 111, 112, 113, 114, 115, 116, 117, 118, 119, 120, 121, 122]⟩ : ByteArray).extract (ji11 : Int).toNat (IntKind.i64.wrap (ji11 + 1)).toNat))) ∧ Drawn0 w w' := by
  have c3b0 := eq_true c3
  have c3b1 : decide (0 ≤ (ji2)) = true := decide_eq_true c3
  have c4b0 := eq_true c4
  have c4b1 : decide ((ji2) ≤ (IntKind.i64.wrap ((ji2) + 1))) = true := decide_eq_true c4
  have c5b0 := eq_true c5
  have c5b1 : decide ((IntKind.i64.wrap ((ji2) + 1)) ≤ 26) = true := decide_eq_true c5
  have c7b0 := eq_true c7
  have c7b1 : decide (0 ≤ (ji6)) = true := decide_eq_true c7
  have c8b0 := eq_true c8
  have c8b1 : decide ((ji6) ≤ (IntKind.i64.wrap ((ji6) + 1))) = true := decide_eq_true c8
  have c9b0 := eq_true c9
  have c9b1 : decide ((IntKind.i64.wrap ((ji6) + 1)) ≤ 26) = true := decide_eq_true c9
  have c12b0 := eq_true c12
  have c12b1 : decide (0 ≤ (ji11)) = true := decide_eq_true c12
  have c13b0 := eq_true c13
  have c13b1 : decide ((ji11) ≤ (IntKind.i64.wrap ((ji11) + 1))) = true := decide_eq_true c13
  have c14b0 := eq_true c14
  have c14b1 : decide ((IntKind.i64.wrap ((ji11) + 1)) ≤ 26) = true := decide_eq_true c14
  have c10b0 := eq_true c10
  have c10b1 : decide (((⟨#[97, 98, 99, 100, 101, 102, 103, 104, 105, 106, 107, 108, 109, 110, 111, 112, 113, 114, 115, 116, 117, 118, 119, 120, 121, 122]⟩ : ByteArray).extract (ji2 : Int).toNat (IntKind.i64.wrap (ji2 + 1)).toNat).size + ((⟨#[97, 98, 99, 100, 101, 102, 103, 104, 105, 106, 107, 108, 109, 110, 111, 112, 113, 114, 115, 116, 117, 118, 119, 120, 121, 122]⟩ : ByteArray).extract (ji6 : Int).toNat (IntKind.i64.wrap (ji6 + 1)).toNat).size ≤ 9223372036854775807) = true := decide_eq_true c10
  have c10b2 : (9223372036854775807 < ((⟨#[97, 98, 99, 100, 101, 102, 103, 104, 105, 106, 107, 108, 109, 110, 111, 112, 113, 114, 115, 116, 117, 118, 119, 120, 121, 122]⟩ : ByteArray).extract (ji2 : Int).toNat (IntKind.i64.wrap (ji2 + 1)).toNat).size + ((⟨#[97, 98, 99, 100, 101, 102, 103, 104, 105, 106, 107, 108, 109, 110, 111, 112, 113, 114, 115, 116, 117, 118, 119, 120, 121, 122]⟩ : ByteArray).extract (ji6 : Int).toNat (IntKind.i64.wrap (ji6 + 1)).toNat).size) = False := eq_false (Nat.not_lt.2 c10)
  have c15b0 := eq_true c15
  have c15b1 : decide ((((⟨#[97, 98, 99, 100, 101, 102, 103, 104, 105, 106, 107, 108, 109, 110, 111, 112, 113, 114, 115, 116, 117, 118, 119, 120, 121, 122]⟩ : ByteArray).extract (ji2 : Int).toNat (IntKind.i64.wrap (ji2 + 1)).toNat) ++ ((⟨#[97, 98, 99, 100, 101, 102, 103, 104, 105, 106, 107, 108, 109, 110, 111, 112, 113, 114, 115, 116, 117, 118, 119, 120, 121, 122]⟩ : ByteArray).extract (ji6 : Int).toNat (IntKind.i64.wrap (ji6 + 1)).toNat)).size + ((⟨#[97, 98, 99, 100, 101, 102, 103, 104, 105, 106, 107, 108, 109, 110, 111, 112, 113, 114, 115, 116, 117, 118, 119, 120, 121, 122]⟩ : ByteArray).extract (ji11 : Int).toNat (IntKind.i64.wrap (ji11 + 1)).toNat).size ≤ 9223372036854775807) = true := decide_eq_true c15
  have c15b2 : (9223372036854775807 < (((⟨#[97, 98, 99, 100, 101, 102, 103, 104, 105, 106, 107, 108, 109, 110, 111, 112, 113, 114, 115, 116, 117, 118, 119, 120, 121, 122]⟩ : ByteArray).extract (ji2 : Int).toNat (IntKind.i64.wrap (ji2 + 1)).toNat) ++ ((⟨#[97, 98, 99, 100, 101, 102, 103, 104, 105, 106, 107, 108, 109, 110, 111, 112, 113, 114, 115, 116, 117, 118, 119, 120, 121, 122]⟩ : ByteArray).extract (ji6 : Int).toNat (IntKind.i64.wrap (ji6 + 1)).toNat)).size + ((⟨#[97, 98, 99, 100, 101, 102, 103, 104, 105, 106, 107, 108, 109, 110, 111, 112, 113, 114, 115, 116, 117, 118, 119, 120, 121, 122]⟩ : ByteArray).extract (ji11 : Int).toNat (IntKind.i64.wrap (ji11 + 1)).toNat).size) = False := eq_false (Nat.not_lt.2 c15)
  have add1 : ∀ w, (Op.stringOp .add ((⟨#[97, 98, 99, 100, 101, 102, 103, 104, 105, 106, 107, 108, 109, 110, 111, 112, 113, 114, 115, 116, 117, 118, 119, 120, 121, 122]⟩ : ByteArray).extract (ji2 : Int).toNat (IntKind.i64.wrap (ji2 + 1)).toNat) ((⟨#[97, 98, 99, 100, 101, 102, 103, 104, 105, 106, 107, 108, 109, 110, 111, 112, 113, 114, 115, 116, 117, 118, 119, 120, 121, 122]⟩ : ByteArray).extract (ji6 : Int).toNat (IntKind.i64.wrap (ji6 + 1)).toNat)).run Try.prog w = .ok (.string (((⟨#[97, 98, 99, 100, 101, 102, 103, 104, 105, 106, 107, 108, 109, 110, 111, 112, 113, 114, 115, 116, 117, 118, 119, 120, 121, 122]⟩ : ByteArray).extract (ji2 : Int).toNat (IntKind.i64.wrap (ji2 + 1)).toNat) ++ ((⟨#[97, 98, 99, 100, 101, 102, 103, 104, 105, 106, 107, 108, 109, 110, 111, 112, 113, 114, 115, 116, 117, 118, 119, 120, 121, 122]⟩ : ByteArray).extract (ji6 : Int).toNat (IntKind.i64.wrap (ji6 + 1)).toNat))) w := fun w => run_string_add_sum _ _ _ c10
  have add2 : ∀ w, (Op.stringOp .add (((⟨#[97, 98, 99, 100, 101, 102, 103, 104, 105, 106, 107, 108, 109, 110, 111, 112, 113, 114, 115, 116, 117, 118, 119, 120, 121, 122]⟩ : ByteArray).extract (ji2 : Int).toNat (IntKind.i64.wrap (ji2 + 1)).toNat) ++ ((⟨#[97, 98, 99, 100, 101, 102, 103, 104, 105, 106, 107, 108, 109, 110, 111, 112, 113, 114, 115, 116, 117, 118, 119, 120, 121, 122]⟩ : ByteArray).extract (ji6 : Int).toNat (IntKind.i64.wrap (ji6 + 1)).toNat)) ((⟨#[97, 98, 99, 100, 101, 102, 103, 104, 105, 106, 107, 108, 109, 110, 111, 112, 113, 114, 115, 116, 117, 118, 119, 120, 121, 122]⟩ : ByteArray).extract (ji11 : Int).toNat (IntKind.i64.wrap (ji11 + 1)).toNat)).run Try.prog w = .ok (.string ((((⟨#[97, 98, 99, 100, 101, 102, 103, 104, 105, 106, 107, 108, 109, 110, 111, 112, 113, 114, 115, 116, 117, 118, 119, 120, 121, 122]⟩ : ByteArray).extract (ji2 : Int).toNat (IntKind.i64.wrap (ji2 + 1)).toNat) ++ ((⟨#[97, 98, 99, 100, 101, 102, 103, 104, 105, 106, 107, 108, 109, 110, 111, 112, 113, 114, 115, 116, 117, 118, 119, 120, 121, 122]⟩ : ByteArray).extract (ji6 : Int).toNat (IntKind.i64.wrap (ji6 + 1)).toNat)) ++ ((⟨#[97, 98, 99, 100, 101, 102, 103, 104, 105, 106, 107, 108, 109, 110, 111, 112, 113, 114, 115, 116, 117, 118, 119, 120, 121, 122]⟩ : ByteArray).extract (ji11 : Int).toNat (IntKind.i64.wrap (ji11 + 1)).toNat))) w := fun w => run_string_add_sum _ _ _ c15
  clear c10b0 c10b1 c10b2 c15b0 c15b1 c15b2 c10 c15
  go_enter Try.func15, Try.ntmps15
  go_wp2
  go_quiet (fail)
  go_wp2
  go_ret
  exact ⟨by first | rfl | (simp; done) | (simp only [← hji2, ← hji6, ← hji11] <;> (first | rfl | simp)) | (simp [*]; done), by repeat (first | exact Drawn0.refl _ | apply Drawn0.step)⟩
theorem wr1 {j : Nat} (h : j < 26) : IntKind.i64.wrap ((j : Int) + 1) = ((j + 1 : Nat) : Int) := by rw [IntWalk.i64_in _ (by omega)]; omega
theorem name_calls (n : Nat) (w : World) (h : n ≤ 400) : Calls Try.prog 15 #[.int .i64 n] w fun e w' => e = .returned (.string (nm n)) ∧ ∃ q, w' = w.drewN q := by
  have e2 : Int.tmod (IntKind.i64.wrap (Int.tdiv (n : Int) 676)) 26 = ((n / 676 % 26 : Nat) : Int) := by
    rw [Int.tdiv_eq_ediv_of_nonneg (by omega)]
    have : IntKind.i64.wrap ((n : Int) / 676) = ((n / 676 : Nat) : Int) := by rw [IntWalk.i64_in _ (by omega)]; omega
    rw [this, Int.tmod_eq_emod_of_nonneg (by omega)]
    omega
  have e6 : Int.tmod (IntKind.i64.wrap (Int.tdiv (n : Int) 26)) 26 = ((n / 26 % 26 : Nat) : Int) := by
    rw [Int.tdiv_eq_ediv_of_nonneg (by omega)]
    have : IntKind.i64.wrap ((n : Int) / 26) = ((n / 26 : Nat) : Int) := by rw [IntWalk.i64_in _ (by omega)]; omega
    rw [this, Int.tmod_eq_emod_of_nonneg (by omega)]
    omega
  have e11 : Int.tmod (n : Int) 26 = ((n % 26 : Nat) : Int) := by
    rw [Int.tmod_eq_emod_of_nonneg (by omega)]
    omega
  have l2 : n / 676 % 26 < 26 := Nat.mod_lt _ (by omega)
  have l6 : n / 26 % 26 < 26 := Nat.mod_lt _ (by omega)
  have l11 : n % 26 < 26 := Nat.mod_lt _ (by omega)
  have hsz := (nm_ok h).1
  unfold nm at hsz ⊢
  generalize n / 676 % 26 = a at *
  generalize n / 26 % 26 = b at *
  generalize n % 26 = c at *
  rw [ByteArray.size_append, ByteArray.size_append] at hsz
  have hs2 : (letters.extract a (a + 1) ++ letters.extract b (b + 1)).size = (letters.extract a (a + 1)).size + (letters.extract b (b + 1)).size := ByteArray.size_append
  refine (name_walk n a b c w e2 e6 e11 (by omega) (by rw [wr1 l2]; omega) (by rw [wr1 l2]; omega) (by omega) (by rw [wr1 l6]; omega) (by rw [wr1 l6]; omega) (by omega) (by rw [wr1 l11]; omega) (by rw [wr1 l11]; omega) ?_ ?_).mono ?_
  · rw [wr1 l2, wr1 l6, Int.toNat_natCast, Int.toNat_natCast, Int.toNat_natCast, Int.toNat_natCast]
    show (letters.extract a (a + 1)).size + (letters.extract b (b + 1)).size ≤ _
    omega
  · rw [wr1 l2, wr1 l6, wr1 l11, Int.toNat_natCast, Int.toNat_natCast, Int.toNat_natCast, Int.toNat_natCast, Int.toNat_natCast, Int.toNat_natCast]
    show (letters.extract a (a + 1) ++ letters.extract b (b + 1)).size + (letters.extract c (c + 1)).size ≤ _
    omega
  · rintro e w' ⟨he, ⟨q, hq⟩⟩
    refine ⟨?_, q, hq⟩
    rw [wr1 l2, wr1 l6, wr1 l11, Int.toNat_natCast, Int.toNat_natCast, Int.toNat_natCast, Int.toNat_natCast, Int.toNat_natCast, Int.toNat_natCast] at he
    exact he
end Go.Proofs.Ytaefbibkkkglnaa.Wh
