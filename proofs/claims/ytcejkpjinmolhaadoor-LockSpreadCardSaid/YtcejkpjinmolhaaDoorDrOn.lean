/- larderref01.on bit by bit is the table's. No condition. -/
import Derived.Test.YtcejkpjinmolhaaDoorDrCrcOn
import Derived.Test.YtcejkpjinmolhaaDoorPLockStripesx1
namespace Go.Proofs.YtcejkpjinmolhaaDoor.Dr
open Go Go.RowKit Go.Proofs.YtcejkpjinmolhaaDoorW.PrintWords Go.Proofs.YtcejkpjinmolhaaDoorW.PrintLast Go.Proofs.YtcejkpjinmolhaaDoorW.PrintMore Go.Proofs.YtcejkpjinmolhaaDoor.PLockStripes
set_option linter.unusedVariables false
set_option linter.unusedSimpArgs false

theorem w64n (i : Nat) (h : i < 4611686018427387904) : wrap64 ((i : Int) + 1) = ((i + 1 : Nat) : Int) := by
  unfold wrap64
  omega
theorem and1 (a : Nat) (ha : a < 4294967296) : bits .and .u32 (a : Int) 1 = ((a % 2 : Nat) : Int) := by
  have := bits_mask .u32 32 (by decide) (fun n h0 h1 => wraps_u32 n h0 h1) 1 (by decide) (a : Int) (by omega) (by omega)
  rw [show ((2 : Int) ^ 1 - 1) = 1 by decide, show ((2 : Int) ^ 1) = 2 by decide] at this
  rw [this]
  omega
theorem step_lt (a : Nat) (ha : a < 4294967296) : Crc.step a < 4294967296 := by
  unfold Crc.step
  split
  · exact xor_lt _ _ (by omega) (by decide)
  · omega
theorem on_step (k a : Nat) (ha : a < 4294967296) (xs : List Int) (i : Int) (j : Nat) (hj : j < 8) : larderref01_on.l1 (k + 1) (a : Int) xs i (j : Int) = larderref01_on.l1 k ((Crc.step a : Nat) : Int) xs i ((j + 1 : Nat) : Int) := by
  rw [larderref01_on.l1, if_pos (by omega), and1 a ha, w64n j (by omega)]
  unfold Crc.step
  by_cases h : a % 2 = 1
  · rw [if_pos (by omega), if_pos h, show ((a : Int) / 2) = ((a / 2 : Nat) : Int) by omega, show (2197175160 : Int) = ((Crc.poly : Nat) : Int) by decide, xor_u32 _ _ (by omega) (by decide)]
  · rw [if_neg (by omega), if_neg h, show ((a : Int) / 2) = ((a / 2 : Nat) : Int) by omega]
theorem on_byte (k a : Nat) (ha : a < 4294967296) (xs : List Int) (i : Int) : larderref01_on.l1 (k + 9) (a : Int) xs i 0 = larderref01_on.l0 k ((Crc.half (Crc.half a) : Nat) : Int) xs (wrap64 (i + 1)) := by
  rw [← Crc.step8]
  unfold Crc.step4
  have h1 := step_lt _ ha
  have h2 := step_lt _ h1
  have h3 := step_lt _ h2
  have h4 := step_lt _ h3
  have h5 := step_lt _ h4
  have h6 := step_lt _ h5
  have h7 := step_lt _ h6
  have e := on_step (k + 8) a ha xs i 0 (by decide)
  rw [show ((0 : Nat) : Int) = 0 from rfl] at e
  rw [e, on_step (k + 7) _ h1 xs i 1 (by decide), on_step (k + 6) _ h2 xs i 2 (by decide), on_step (k + 5) _ h3 xs i 3 (by decide), on_step (k + 4) _ h4 xs i 4 (by decide), on_step (k + 3) _ h5 xs i 5 (by decide), on_step (k + 2) _ h6 xs i 6 (by decide), on_step (k + 1) _ h7 xs i 7 (by decide)]
  rw [larderref01_on.l1, if_neg (by decide)]
theorem on_l0 (ns : List Nat) (hs : ∀ x ∈ ns, x < 256) (hl : ns.length ≤ 1125899906842624) : ∀ (n i k r : Nat), i + n = ns.length → 10 * n < k → r < 4294967296 → larderref01_on.l0 k (r : Int) (ns.map (fun n : Nat => (n : Int))) (i : Int) = some ((crcF r (ns.drop i) : Nat) : Int)
  | 0, i, k + 1, r, h, _, _ => by
    rw [larderref01_on.l0, if_neg (by rw [List.length_map]; omega), List.drop_of_length_le (by omega)]
    rfl
  | n + 1, i, k + 1, r, h, hk, hr => by
    have hi : i < ns.length := by omega
    obtain ⟨k, rfl⟩ : ∃ j, k = j + 9 := ⟨k - 9, by omega⟩
    have hx := hs ns[i] (List.getElem_mem hi)
    have hrd : rd (ns.map (fun n : Nat => (n : Int))) (i : Int) = ((ns[i] : Nat) : Int) := by
      unfold rd
      simp [hi]
    rw [larderref01_on.l0, if_pos (by rw [List.length_map]; omega), if_pos (by omega), hrd, show (((ns[i] : Nat) : Int) % 4294967296) = ((ns[i] : Nat) : Int) by omega, xor_u32 _ _ hr (by omega), on_byte k _ (xor_lt _ _ hr (by omega)), w64n i (by omega), on_l0 ns hs hl n (i + 1) k _ (by omega) (by omega) (half_lt _ (half_lt _ (xor_lt _ _ hr (by omega)))), List.drop_eq_getElem_cons hi]
    rfl
theorem on_f (ns : List Nat) (hs : ∀ x ∈ ns, x < 256) (hl : ns.length ≤ 1125899906842624) : larderref01_on.f (10 * ns.length + 1) 4294967295 (ns.map (fun n : Nat => (n : Int))) = some ((crcF 4294967295 ns : Nat) : Int) := by
  unfold larderref01_on.f
  exact on_l0 ns hs hl ns.length 0 _ 4294967295 (by omega) (by omega) (by decide)
theorem by_C {w : World} {b : Nat} {ns : List Nat} (h : By w b ns) (hl : ns.length ≤ 1125899906842624) : Kd.C (Kd.int .u8) w (some ⟨b, 0, none⟩) (ns.map (fun n : Nat => (n : Int))).length (ns.map (fun n : Nat => (n : Int))) := by
  refine ⟨rfl, by rw [List.length_map]; omega, fun _ => ⟨⟨b, 0, none⟩, rfl, fun j p hp => ?_⟩⟩
  rw [List.getElem?_map, Option.map_eq_some_iff] at hp
  obtain ⟨x, hx, rfl⟩ := hp
  have hj := (List.getElem?_eq_some_iff.1 hx).1
  refine ⟨[.int .u8 (x : Int)], rfl, rfl, fun i u hu => ?_⟩
  have hc := h j hj
  rw [List.getD_eq_getElem?_getD, hx] at hc
  match i, hu with
  | 0, hu =>
    cases hu
    rw [add_plain]
    rw [show (Kd.int .u8).sz = 1 from rfl, Nat.mul_one]
    simpa using hc
end Go.Proofs.YtcejkpjinmolhaaDoor.Dr
