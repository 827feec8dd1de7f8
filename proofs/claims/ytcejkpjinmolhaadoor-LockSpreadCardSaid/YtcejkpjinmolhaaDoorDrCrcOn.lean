/- frame.CrcOn, frame.Crc. No condition. -/
import Derived.Test.YtcejkpjinmolhaaDoorDrMoved
import Derived.Test.YtcejkpjinmolhaaDoorPLockStripesx0
namespace Go.Proofs.YtcejkpjinmolhaaDoor.Dr
open Go Go.RowKit Go.Proofs.YtcejkpjinmolhaaDoorW.PrintWords Go.Proofs.YtcejkpjinmolhaaDoorW.PrintLast Go.Proofs.YtcejkpjinmolhaaDoorW.PrintMore
set_option linter.unusedVariables false
set_option linter.unusedSimpArgs false

def crcF (r : Nat) (ns : List Nat) : Nat := ns.foldl (fun r x => Crc.half (Crc.half (r ^^^ x))) r
def By (w : World) (b : Nat) (ns : List Nat) : Prop := ∀ j, j < ns.length → w.cell? ⟨b, j, none⟩ = some (.int .u8 ((ns.getD j 0 : Nat) : Int))
theorem xor_lt (a b : Nat) (ha : a < 4294967296) (hb : b < 4294967296) : a ^^^ b < 4294967296 := Nat.xor_lt_two_pow (n := 32) (by omega) (by omega)
theorem crcF_lt : ∀ (ns : List Nat) (r : Nat), r < 4294967296 → (∀ x ∈ ns, x < 256) → crcF r ns < 4294967296
  | [], r, h, _ => h
  | x :: ns, r, h, hs => by
    have hx := hs x (List.mem_cons_self ..)
    exact crcF_lt ns _ (half_lt _ (half_lt _ (xor_lt _ _ h (by omega)))) (fun y hy => hs y (List.mem_cons_of_mem _ hy))
theorem crcF_snoc (r : Nat) (ns : List Nat) (x : Nat) : crcF r (ns ++ [x]) = Crc.half (Crc.half (crcF r ns ^^^ x)) := by
  unfold crcF
  rw [List.foldl_append]
  rfl
theorem crcF_take (r : Nat) (ns : List Nat) (k : Nat) (h : k < ns.length) : crcF r (ns.take (k + 1)) = Crc.half (Crc.half (crcF r (ns.take k) ^^^ ns.getD k 0)) := by
  rw [← crcF_snoc, List.take_succ_eq_append_getElem h, List.getD_eq_getElem?_getD, List.getElem?_eq_getElem h]
  rfl

theorem inv_u32 (a : Nat) (ha : a < 4294967296) : bits .xor .u32 IntKind.u32.max (a : Int) = ((4294967295 ^^^ a : Nat) : Int) := by
  rw [show IntKind.u32.max = ((4294967295 : Nat) : Int) by decide]
  exact xor_u32 _ _ (by decide) ha

set_option maxRecDepth 100000 in
set_option maxHeartbeats 4000000 in
theorem crcon_calls (c b cap : Nat) (ns : List Nat) (w : World) (hc : c < 4294967296) (hT : Tab w) (hb : By w b ns) (hs : ∀ x ∈ ns, x < 256) (hl : ns.length ≤ 1125899906842624) :
    Calls Tryd.prog 15 #[.int .u32 (c : Int), .slice (some ⟨b, 0, none⟩) ns.length cap] w fun e w' => e = .returned (.int .u32 ((4294967295 ^^^ crcF (4294967295 ^^^ c) ns : Nat) : Int)) ∧ w' = w := by
  have HT := Aside0.mk hT
  have HB := Aside0.mk hb
  have HS := Aside0.mk hs
  clear hT hb hs
  have hx := inv_u32 c hc
  have hr0 := xor_lt 4294967295 c (by decide) hc
  generalize 4294967295 ^^^ c = r0 at *
  go_enter Tryd.func15, Tryd.ntmps15
  go_wp2_with fail
  go_loopw [5, 7, 12] (fun v5 v7 v12 wr => ∃ k : Nat, k ≤ ns.length ∧ v12 = .int .i64 k ∧ v5 = .int .u32 ((crcF r0 (ns.take k) : Nat) : Int) ∧ wr = w) (fun _ _ v12 _ => ns.length - (intOf v12).toNat)
  case atStart => exact ⟨0, Nat.zero_le _, rfl, by simp [crcF], rfl⟩
  case round =>
    obtain ⟨k, hk, rfl, rfl, rfl⟩ := hrel
    by_cases hlt : k < ns.length
    · have hcell := HB.out k hlt
      have hS := HS.out (ns.getD k 0) (by rw [List.getD_eq_getElem?_getD, List.getElem?_eq_getElem hlt]; exact List.getElem_mem hlt)
      have hrk := crcF_lt (ns.take k) r0 hr0 (fun x hx => HS.out x (List.mem_of_mem_take hx))
      have hX := xor_u32 (crcF r0 (ns.take k)) (ns.getD k 0) hrk (by omega)
      have hXl := xor_lt (crcF r0 (ns.take k)) (ns.getD k 0) hrk (by omega)
      have HN := Aside0.mk (crcF_take r0 ns k hlt)
      obtain ⟨rk, hrk'⟩ : ∃ rk, rk = crcF r0 (ns.take k) := ⟨_, rfl⟩
      rw [← hrk'] at hX hXl HN hrk ⊢
      obtain ⟨xk, hxk⟩ : ∃ xk, xk = ns.getD k 0 := ⟨_, rfl⟩
      rw [← hxk] at hX hXl HN hcell hS
      clear hrk' hxk
      have hw8 : ((xk : Int) % 4294967296) = (xk : Int) := by omega
      obtain ⟨yk, hyk⟩ : ∃ yk, yk = rk ^^^ xk := ⟨_, rfl⟩
      rw [← hyk] at hX hXl HN
      clear hyk
      go_wp2_with (first | (go_at_call 19; refine (moved_calls yk _ hXl HT.out).mono ?_; rintro e w1 ⟨rfl, rfl⟩))
      go_roundw
      case rel => exact ⟨k + 1, by omega, by go_num, by rw [HN.out], by first | trivial | rfl⟩
      case measure => simp [intOf]; omega
    · obtain rfl : k = ns.length := by omega
      have hrk := crcF_lt ns r0 hr0 HS.out
      rw [List.take_length]
      have hi := inv_u32 (crcF r0 ns) hrk
      go_wp2_with fail
      go_ret
      exact ⟨by go_num, rfl⟩

set_option maxRecDepth 100000 in
theorem crc_calls (b cap : Nat) (ns : List Nat) (w : World) (hT : Tab w) (hb : By w b ns) (hs : ∀ x ∈ ns, x < 256) (hl : ns.length ≤ 1125899906842624) :
    Calls Tryd.prog 11 #[.slice (some ⟨b, 0, none⟩) ns.length cap] w fun e w' => e = .returned (.int .u32 ((4294967295 ^^^ crcF 4294967295 ns : Nat) : Int)) ∧ w' = w := by
  have HC := Aside0.mk (crcon_calls 0 b cap ns w (by decide) hT hb hs hl)
  clear hT hb hs
  rw [show (4294967295 ^^^ 0 : Nat) = 4294967295 by decide] at HC
  go_enter Tryd.func11, Tryd.ntmps11
  go_wp2_with (first | (go_at_call 15; refine (HC.out).mono ?_; rintro e w1 ⟨rfl, rfl⟩))
  go_ret
  exact ⟨rfl, rfl⟩
end Go.Proofs.YtcejkpjinmolhaaDoor.Dr
