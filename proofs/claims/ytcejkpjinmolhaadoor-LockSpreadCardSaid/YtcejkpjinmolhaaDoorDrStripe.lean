/- lock.Stripe, larderref08.Stripe, LockStripes. No condition. -/
import Derived.Test.YtcejkpjinmolhaaDoorDrOn
namespace Go.Proofs.YtcejkpjinmolhaaDoor.Dr
open Go Go.RowKit Go.Proofs.YtcejkpjinmolhaaDoorW.PrintWords Go.Proofs.YtcejkpjinmolhaaDoorW.PrintLast Go.Proofs.YtcejkpjinmolhaaDoorW.PrintMore Go.Proofs.YtcejkpjinmolhaaDoor.PLockStripes
set_option linter.unusedVariables false
set_option linter.unusedSimpArgs false

def nums (s : ByteArray) : List Nat := s.data.toList.map (fun b => b.toNat)
theorem nums_lt (s : ByteArray) : ∀ x ∈ nums s, x < 256 := by
  intro x hx
  obtain ⟨b, _, rfl⟩ := List.mem_map.1 hx
  exact b.toNat_lt
theorem nums_len (s : ByteArray) : (nums s).length = s.size := by
  unfold nums
  rw [List.length_map, Array.length_toList]
  rfl
theorem by_bytes (w : World) (e : TypeId) (s : ByteArray) : By (Lib.bytesWorld w e s) w.heap.size (nums s) := by
  intro j hj
  rw [nums_len] at hj
  rw [Lib.bytesWorld_cell w e s j hj]
  have h : (nums s).getD j 0 = (s.data.toList.getD j 0).toNat := by
    unfold nums
    rw [List.getD_eq_getElem?_getD, List.getD_eq_getElem?_getD, List.getElem?_map]
    cases s.data.toList[j]? <;> rfl
  rw [h]
theorem tab_bytes {w : World} (h : Tab w) (e : TypeId) (s : ByteArray) : Tab (Lib.bytesWorld w e s) := Lib.bytesWorld_var w e s h
theorem below_bytes (w : World) (e : TypeId) (s : ByteArray) : Below w.heap.size w (Lib.bytesWorld w e s) := by
  exact ⟨rfl, rfl, rfl, by rw [Lib.bytesWorld_size]; omega, fun k hk => Lib.bytesWorld_at_old w e s k hk⟩
def sum (s : ByteArray) : Nat := 4294967295 ^^^ crcF 4294967295 (nums s)
theorem sum_lt (s : ByteArray) : sum s < 4294967296 := xor_lt _ _ (by decide) (crcF_lt _ _ (by decide) (nums_lt s))
def stripeF (s : ByteArray) (n : Int) : Int := if n < 1 ∨ n > 64 then -1 else ((sum s % n.toNat : Nat) : Int)

set_option maxRecDepth 100000 in
set_option maxHeartbeats 4000000 in
theorem refcrc_calls (b cap : Nat) (ns : List Nat) (w : World) (hb : By w b ns) (hs : ∀ x ∈ ns, x < 256) (hl : ns.length ≤ 1125899906842624) (hcap : ns.length ≤ cap) :
    Calls Tryd.prog 12 #[.slice (some ⟨b, 0, none⟩) ns.length cap] w fun e w' => e = .returned (.int .u32 ((4294967295 ^^^ crcF 4294967295 ns : Nat) : Int)) ∧ Drawn0 w w' := by
  have hon := larderref01_on.calls _ 4294967295 (some ⟨b, 0, none⟩) cap (ns.map (fun n : Nat => (n : Int))) _ w (by_C hb hl) (by rw [List.length_map]; exact hcap) (on_f ns hs hl)
  rw [List.length_map] at hon
  have HON := Aside0.mk hon
  clear hon hb
  have hi := inv_u32 _ (crcF_lt ns 4294967295 (by decide) hs)
  go_enter Tryd.func12, Tryd.ntmps12
  go_wp2_with (first | (go_at_call 16; refine (HON.out).mono ?_; rintro e w1 ⟨rfl, hd⟩))
  go_ret
  exact ⟨by first | rfl | go_num, hd⟩

set_option maxRecDepth 100000 in
set_option maxHeartbeats 4000000 in
theorem stripe_calls (s : ByteArray) (n : Int) (w : World) (hT : Tab w) (hs : s.size ≤ 140737488351232) (hn : (Lit.int .i64 n).wf = true) :
    Calls Tryd.prog 6 #[.string s, .int .i64 n] w fun e w' => e = .returned (.int .i64 (stripeF s n)) ∧ Below w.heap.size w w' ∧ Tab w' := by
  have HT := Aside0.mk hT
  clear hT
  by_cases h1 : n < 1
  · have d1 : decide (n < 1) = true := decide_eq_true h1
    go_enter Tryd.func6, Tryd.ntmps6
    go_wp2_with fail
    go_ret
    exact ⟨by unfold stripeF; rw [if_pos (Or.inl h1)]; rfl, Below.refl _ _, HT.out⟩
  by_cases h2 : n > 64
  · have d1 : decide (n < 1) = false := decide_eq_false h1
    have d2 : decide (n > 64) = true := decide_eq_true h2
    go_enter Tryd.func6, Tryd.ntmps6
    go_wp2_with fail
    go_ret
    exact ⟨by unfold stripeF; rw [if_pos (Or.inr h2)]; rfl, Below.refl _ _, HT.out⟩
  have d1 : decide (n < 1) = false := decide_eq_false h1
  have d2 : decide (n > 64) = false := decide_eq_false h2
  obtain ⟨m, rfl⟩ := Int.eq_ofNat_of_zero_le (show 0 ≤ n by omega)
  have hcv := fun W => Lib.run_convert_string_bytes (P := Tryd.prog) W 9 32 5 s Tryd.underlying9 Tryd.underlying32 Tryd.underlying5
  have hcc := crc_calls w.heap.size (grownCap w s.size 0 5) (nums s) (Lib.bytesWorld w 5 s) (tab_bytes HT.out _ s) (by_bytes w _ s) (nums_lt s) (by rw [nums_len]; omega)
  rw [nums_len] at hcc
  rw [show (4294967295 ^^^ crcF 4294967295 (nums s)) = sum s from rfl] at hcc
  have HCC := Aside0.mk hcc
  have hq := sum_lt s
  have HST := Aside0.mk (show stripeF s (m : Int) = ((sum s % m : Nat) : Int) by unfold stripeF; rw [if_neg (by omega), Int.toNat_natCast])
  clear hcc
  generalize sum s = q at *
  go_enter Tryd.func6, Tryd.ntmps6
  go_wp2_with (first | (go_at_call 11; refine (HCC.out).mono ?_; rintro e w1 ⟨rfl, rfl⟩))
  go_ret
  refine ⟨?_, below_bytes _ _ _, tab_bytes HT.out _ _⟩
  rw [HST.out]
  have hw : wrap64 ((q : Int) % (m : Int)) = ((q % m : Nat) : Int) := by
    have h3 : (q : Int) % (m : Int) = ((q % m : Nat) : Int) := by omega
    have h4 : q % m ≤ q := Nat.mod_le _ _
    rw [h3]
    unfold wrap64
    omega
  rw [← hw]
  rfl

set_option maxRecDepth 100000 in
set_option maxHeartbeats 4000000 in
theorem refstripe_calls (s : ByteArray) (n : Int) (w : World) (hs : s.size ≤ 140737488351232) (hn : (Lit.int .i64 n).wf = true) :
    Calls Tryd.prog 7 #[.string s, .int .i64 n] w fun e w' => e = .returned (.int .i64 (stripeF s n)) ∧ Below w.heap.size w w' := by
  by_cases h1 : n < 1
  · have d1 : decide (n < 1) = true := decide_eq_true h1
    go_enter Tryd.func7, Tryd.ntmps7
    go_wp2_with fail
    go_ret
    exact ⟨by unfold stripeF; rw [if_pos (Or.inl h1)]; rfl, Below.refl _ _⟩
  by_cases h2 : n > 64
  · have d1 : decide (n < 1) = false := decide_eq_false h1
    have d2 : decide (n > 64) = true := decide_eq_true h2
    go_enter Tryd.func7, Tryd.ntmps7
    go_wp2_with fail
    go_ret
    exact ⟨by unfold stripeF; rw [if_pos (Or.inr h2)]; rfl, Below.refl _ _⟩
  have d1 : decide (n < 1) = false := decide_eq_false h1
  have d2 : decide (n > 64) = false := decide_eq_false h2
  obtain ⟨m, rfl⟩ := Int.eq_ofNat_of_zero_le (show 0 ≤ n by omega)
  have hcv := fun W => Lib.run_convert_string_bytes (P := Tryd.prog) W 9 32 5 s Tryd.underlying9 Tryd.underlying32 Tryd.underlying5
  have hcc := refcrc_calls w.heap.size (grownCap w s.size 0 5) (nums s) (Lib.bytesWorld w 5 s) (by_bytes w _ s) (nums_lt s) (by rw [nums_len]; omega) (by rw [nums_len]; exact grownCap_ge _ _ _ _)
  rw [nums_len] at hcc
  rw [show (4294967295 ^^^ crcF 4294967295 (nums s)) = sum s from rfl] at hcc
  have HCC := Aside0.mk hcc
  have hq := sum_lt s
  have HST := Aside0.mk (show stripeF s (m : Int) = ((sum s % m : Nat) : Int) by unfold stripeF; rw [if_neg (by omega), Int.toNat_natCast])
  clear hcc
  generalize sum s = q at *
  go_enter Tryd.func7, Tryd.ntmps7
  go_wp2_with (first | (go_at_call 12; refine (HCC.out).mono ?_; rintro e w1 ⟨rfl, hd⟩))
  go_ret
  refine ⟨?_, below_step (below_bytes _ _ _) hd.below⟩
  rw [HST.out]
  have h3 : (q : Int) % (m : Int) = ((q % m : Nat) : Int) := by omega
  rw [← h3]
  rfl

set_option maxRecDepth 100000 in
set_option maxHeartbeats 4000000 in
theorem stripes_true (s : ByteArray) (n : Int) (w : World) (hT : Tab w) (hs : s.size ≤ 140737488351232) (hn : (Lit.int .i64 n).wf = true) :
    Calls Tryd.prog 3 #[.string s, .int .i64 n] w fun e w' => e = .returned (.bool true) ∧ Below w.heap.size w w' := by
  have HC := Aside0.mk (stripe_calls s n w hT hs hn)
  have HD := Aside0.mk (fun w => refstripe_calls s n w hs hn)
  generalize stripeF s n = q at *
  go_enter Tryd.func3, Tryd.ntmps3
  go_wp2_with (first | (go_at_call 6; refine (HC.out).mono ?_; rintro e w1 ⟨rfl, hb, hT1⟩) | (go_at_call 7; refine (HD.out _).mono ?_; rintro e w2 ⟨rfl, hb2⟩))
  go_ret
  exact ⟨rfl, below_step hb hb2⟩
end Go.Proofs.YtcejkpjinmolhaaDoor.Dr
