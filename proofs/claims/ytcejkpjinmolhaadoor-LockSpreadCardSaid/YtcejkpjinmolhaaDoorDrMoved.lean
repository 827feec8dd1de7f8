/- frame.moved by the table. No condition. -/
import Derived.Test.YtcejkpjinmolhaaDoorWWords
import Derived.Test.YtcejkpjinmolhaaDoorWLast
import Derived.Test.YtcejkpjinmolhaaDoorWMore
import Derived.Test.YtcejkpjinmolhaaDoorCrc
import Derived.Test.YtcejkpjinmolhaaDoorProg
import Derived.Lib.LaidTab
import Derived.Laws.BitsLemmas
import Derived.Deep.DeepCutAuto
import Derived.KernelRfl
namespace Go.Proofs.YtcejkpjinmolhaaDoor.Dr
open Go Go.RowKit Go.Proofs.YtcejkpjinmolhaaDoorW.PrintWords Go.Proofs.YtcejkpjinmolhaaDoorW.PrintLast Go.Proofs.YtcejkpjinmolhaaDoorW.PrintMore
set_option linter.unusedVariables false
set_option linter.unusedSimpArgs false

def tabZ : List Int := Crc.tab.map (fun n : Nat => (n : Int))
theorem gNamed : Tryd.prog.globalNamed "larder/frame.table" = some 0 := by kernel_rfl
def Tab (w : World) : Prop := Lib.TabIs Tryd.prog w "larder/frame.table" .u32 tabZ

theorem wraps_u32 (n : Int) (h₀ : 0 ≤ n) (h₁ : n < 2 ^ 32) : IntKind.u32.wrap n = n := by rw [IntKind.wrap_u32]; omega
theorem xor_u32 (a b : Nat) (ha : a < 4294967296) (hb : b < 4294967296) : bits .xor .u32 (a : Int) (b : Int) = ((a ^^^ b : Nat) : Int) := by
  have h := Nat.xor_lt_two_pow (n := 32) (x := a) (y := b) (by omega) (by omega)
  have ha' : a % 2 ^ IntKind.u32.bits = a := Nat.mod_eq_of_lt ha
  have hb' : b % 2 ^ IntKind.u32.bits = b := Nat.mod_eq_of_lt hb
  simp only [bits, BitVec.ofInt_natCast, BitVec.toNat_xor, BitVec.toNat_ofNat, ha', hb']
  exact wraps_u32 _ (by omega) (by omega)
theorem and15 (a : Nat) (ha : a < 4294967296) : bits .and .u32 (a : Int) 15 = ((a % 16 : Nat) : Int) := by
  have := bits_mask .u32 32 (by decide) (fun n h0 h1 => wraps_u32 n h0 h1) 4 (by decide) (a : Int) (by omega) (by omega)
  rw [show ((2 : Int) ^ 4 - 1) = 15 by decide, show ((2 : Int) ^ 4) = 16 by decide] at this
  rw [this]
  omega
theorem half_lt (a : Nat) (ha : a < 4294967296) : Crc.half a < 4294967296 := by
  unfold Crc.half
  have h : ∀ i, i < 16 → Crc.tab.getD i 0 < 2 ^ 32 := by decide
  exact Nat.xor_lt_two_pow (n := 32) (h _ (by omega)) (by omega)
theorem tab_cell {w : World} (h : Tab w) (i : Nat) (hi : i < 16) : w.cell? ⟨0, i, none⟩ = some (.int .u32 ((Crc.tab.getD i 0 : Nat) : Int)) := by
  have := Lib.TabIs.cell h gNamed i (by simpa [tabZ, Crc.tab] using hi)
  rw [this]
  have e : ∀ i, i < 16 → tabZ.getD i 0 = ((Crc.tab.getD i 0 : Nat) : Int) := by decide
  rw [e i hi]

set_option maxRecDepth 100000 in
set_option maxHeartbeats 4000000 in
theorem moved_calls (a : Nat) (w : World) (ha : a < 4294967296) (hT : Tab w) :
    Calls Tryd.prog 19 #[.int .u32 (a : Int)] w fun e w' => e = .returned (.int .u32 ((Crc.half (Crc.half a) : Nat) : Int)) ∧ w' = w := by
  have hb := half_lt a ha
  have ht : ∀ i, i < 16 → Crc.tab.getD i 0 < 4294967296 := by decide
  have c1 := tab_cell hT (a % 16) (by omega)
  have c2 := tab_cell hT (Crc.half a % 16) (by omega)
  have e1 := and15 a ha
  have e2 := and15 (Crc.half a) hb
  have x1 : bits .xor .u32 ((Crc.tab.getD (a % 16) 0 : Nat) : Int) ((a : Int) / 16) = ((Crc.half a : Nat) : Int) := by
    rw [show ((a : Int) / 16) = ((a / 16 : Nat) : Int) by omega]
    exact xor_u32 _ _ (ht _ (by omega)) (by omega)
  have x2 : bits .xor .u32 ((Crc.tab.getD (Crc.half a % 16) 0 : Nat) : Int) (((Crc.half a : Nat) : Int) / 16) = ((Crc.half (Crc.half a) : Nat) : Int) := by
    rw [show (((Crc.half a : Nat) : Int) / 16) = ((Crc.half a / 16 : Nat) : Int) by omega]
    exact xor_u32 _ _ (ht _ (by omega)) (by omega)
  clear ht
  generalize Crc.half (Crc.half a) = h2 at *
  generalize Crc.tab.getD (Crc.half a % 16) 0 = t2 at *
  generalize Crc.tab.getD (a % 16) 0 = t1 at *
  generalize Crc.half a = h1 at *
  have u51 := Tryd.underlying51
  go_enter Tryd.func19, Tryd.ntmps19
  go_wp2_with fail
  go_ret
  exact ⟨rfl, rfl⟩
end Go.Proofs.YtcejkpjinmolhaaDoor.Dr
