/- CRC-32C: four bits on by a table of sixteen. No condition. -/
namespace Go.Proofs.YtcejkpjinmolhaaDoor.Crc
def poly : Nat := 0x82f63b78
def tab : List Nat := [0x00000000, 0x105ec76f, 0x20bd8ede, 0x30e349b1, 0x417b1dbc, 0x5125dad3, 0x61c69362, 0x7198540d, 0x82f63b78, 0x92a8fc17, 0xa24bb5a6, 0xb21572c9, 0xc38d26c4, 0xd3d3e1ab, 0xe330a81a, 0xf36e6f75]
def step (c : Nat) : Nat := if c % 2 = 1 then (c / 2) ^^^ poly else c / 2
def half (c : Nat) : Nat := tab.getD (c % 16) 0 ^^^ c / 16
theorem step_xor (a b : Nat) : step (a ^^^ b) = step a ^^^ step b := by
  unfold step
  rw [Nat.xor_div_two]
  have h : (a ^^^ b) % 2 = 1 ↔ ¬ (a % 2 = 1 ↔ b % 2 = 1) := by
    have e : (a ^^^ b) % 2 ^ 1 = (a % 2 ^ 1) ^^^ (b % 2 ^ 1) := Nat.xor_mod_two_pow
    rw [show (2 : Nat) ^ 1 = 2 from rfl] at e
    rw [e]
    rcases Nat.mod_two_eq_zero_or_one a with ha | ha <;> rcases Nat.mod_two_eq_zero_or_one b with hb | hb <;> rw [ha, hb] <;> decide
  by_cases ha : a % 2 = 1 <;> by_cases hb : b % 2 = 1
  · rw [if_neg (by rw [h]; simp [ha, hb]), if_pos ha, if_pos hb]
    rw [Nat.xor_assoc, Nat.xor_comm (b / 2) poly, ← Nat.xor_assoc poly, Nat.xor_self, Nat.zero_xor]
  · rw [if_pos (by rw [h]; simp [ha, hb]), if_pos ha, if_neg hb]
    rw [Nat.xor_assoc, Nat.xor_assoc, Nat.xor_comm poly]
  · rw [if_pos (by rw [h]; simp [ha, hb]), if_neg ha, if_pos hb]
    rw [Nat.xor_assoc]
  · rw [if_neg (by rw [h]; simp [ha, hb]), if_neg ha, if_neg hb]
theorem step_two (k : Nat) : step (2 * k) = k := by
  unfold step
  rw [if_neg (by omega)]
  omega
def step4 (c : Nat) : Nat := step (step (step (step c)))
theorem low : ∀ i, i < 16 → step4 i = tab.getD i 0 := by decide
theorem split (c : Nat) : c = (16 * (c / 16)) ^^^ (c % 16) := by
  have h1 : ((16 * (c / 16)) ^^^ (c % 16)) / 2 ^ 4 = c / 16 := by
    rw [Nat.xor_div_two_pow]
    rw [show 16 * (c / 16) / 2 ^ 4 = c / 16 by omega, show c % 16 / 2 ^ 4 = 0 by omega, Nat.xor_zero]
  have h2 : ((16 * (c / 16)) ^^^ (c % 16)) % 2 ^ 4 = c % 16 := by
    rw [Nat.xor_mod_two_pow]
    rw [show 16 * (c / 16) % 2 ^ 4 = 0 by omega, show c % 16 % 2 ^ 4 = c % 16 by omega, Nat.zero_xor]
  omega
theorem step4_half (c : Nat) : step4 c = half c := by
  unfold half
  rw [← low (c % 16) (by omega)]
  conv => lhs; rw [split c]
  unfold step4
  rw [step_xor, show 16 * (c / 16) = 2 * (2 * (2 * (2 * (c / 16)))) by omega, step_two, step_xor, step_two, step_xor, step_two, step_xor, step_two, Nat.xor_comm]
/-- A register eight bits on, by the table. -/
theorem step8 (c : Nat) : step4 (step4 c) = half (half c) := by rw [step4_half, step4_half]
end Go.Proofs.YtcejkpjinmolhaaDoor.Crc
