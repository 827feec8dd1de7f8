/- larderref08.Set. No condition. -/
import Derived.Test.YtcejkpjinmolhaaDoorDrSet
namespace Go.Proofs.YtcejkpjinmolhaaDoor.Dr
open Go Go.RowKit Go.Proofs.YtcejkpjinmolhaaDoorW.PrintWords Go.Proofs.YtcejkpjinmolhaaDoorW.PrintLast Go.Proofs.YtcejkpjinmolhaaDoorW.PrintMore Go.Proofs.YtcejkpjinmolhaaDoor.PLockStripes
set_option linter.unusedVariables false
set_option linter.unusedSimpArgs false

def hits (n : Int) (keys : List ByteArray) (t : Int) : Bool := keys.any (fun s => stripeF s n == t)
def refSetUp (n : Int) (keys : List ByteArray) (m : Nat) : List Int := ((List.range m).map (fun t : Nat => (t : Int))).filter (fun t => hits n keys t)
def refSetF (n : Int) (keys : List ByteArray) : List Int := if n < 1 ∨ n > 64 then [] else refSetUp n keys n.toNat
theorem refSetUp_succ (n : Int) (keys : List ByteArray) (m : Nat) : refSetUp n keys (m + 1) = if hits n keys (m : Int) = true then refSetUp n keys m ++ [(m : Int)] else refSetUp n keys m := by
  unfold refSetUp
  rw [List.range_succ, List.map_append, List.filter_append]
  by_cases h : hits n keys (m : Int) = true
  · rw [if_pos h]; simp [h]
  · rw [if_neg h]; simp [h]
theorem hits_take (n : Int) (keys : List ByteArray) (t : Int) (k : Nat) (h : k < keys.length) : hits n (keys.take (k + 1)) t = (hits n (keys.take k) t || stripeF keys[k] n == t) := by
  unfold hits
  rw [List.take_succ_eq_append_getElem h, List.any_append]
  simp
theorem refSetUp_len (n : Int) (keys : List ByteArray) (m : Nat) : (refSetUp n keys m).length ≤ m := by
  unfold refSetUp
  refine Nat.le_trans (List.length_filter_le _ _) ?_
  rw [List.length_map, List.length_range]
  exact Nat.le_refl _

set_option maxRecDepth 100000 in
set_option maxHeartbeats 4000000 in
theorem refset_calls (A : Option Addr) (c : Nat) (keys : List ByteArray) (n : Int) (w : World) (hr : Kd.C Kd.string w A keys.length keys) (hc : keys.length ≤ c) (hs : ∀ s ∈ keys, s.size ≤ 140737488351232) (hg : keys.length * 16 ≤ 140737488351232) (hn : (Lit.int .i64 n).wf = true) :
    Calls Tryd.prog 9 #[.slice A keys.length c, .int .i64 n] w fun e w' => ∃ v, e = .returned v ∧ (Kd.int .i64).R 3 w' w.heap.size (fun b => w.heap.size ≤ b) v (refSetF n keys) ∧ Below w.heap.size w w' := by
  have HR := Aside0.mk hr
  have HC := Aside0.mk hc
  have HS := Aside0.mk hs
  clear hr hc hs
  by_cases h1 : n < 1
  · have d1 : decide (n < 1) = true := decide_eq_true h1
    go_enter Tryd.func9, Tryd.ntmps9
    go_wp2_with fail
    go_ret
    exact ⟨_, rfl, by unfold refSetF; rw [if_pos (Or.inl h1)]; exact Kd.R_nil _ _ _ _ _, Below.refl _ _⟩
  by_cases h2 : n > 64
  · have d1 : decide (n < 1) = false := decide_eq_false h1
    have d2 : decide (n > 64) = true := decide_eq_true h2
    go_enter Tryd.func9, Tryd.ntmps9
    go_wp2_with fail
    go_ret
    exact ⟨_, rfl, by unfold refSetF; rw [if_pos (Or.inr h2)]; exact Kd.R_nil _ _ _ _ _, Below.refl _ _⟩
  have d1 : decide (n < 1) = false := decide_eq_false h1
  have d2 : decide (n > 64) = false := decide_eq_false h2
  obtain ⟨m, rfl⟩ := Int.eq_ofNat_of_zero_le (show 0 ≤ n by omega)
  have hset : refSetF (m : Int) keys = refSetUp (m : Int) keys m := by unfold refSetF; rw [if_neg (by omega), Int.toNat_natCast]
  go_enter Tryd.func9, Tryd.ntmps9
  go_wp2_with fail
  go_loopw [5, 6, 7, 8, 9] (fun v5 v6 v7 v8 v9 wr => ∃ t : Nat, t ≤ m ∧ v6 = .int .i64 t ∧ Aside0 ((Kd.int .i64).R 3 wr w.heap.size (fun b => w.heap.size ≤ b) v5 (refSetUp m keys t)) ∧ Aside0 (Below w.heap.size w wr)) (fun _ v6 _ _ _ _ => m - (intOf v6).toNat)
  case atStart => exact ⟨0, Nat.zero_le _, rfl, ⟨Kd.R_nil _ _ _ _ _⟩, ⟨Below.refl _ _⟩⟩
  case round =>
    obtain ⟨t, ht, rfl, R5, B5⟩ := hrel
    by_cases hlt : t < m
    · go_wp2_with fail
      go_loopw [7, 8, 9] (fun v7 v8 v9 wr => ∃ k : Nat, k ≤ keys.length ∧ v8 = .int .i64 k ∧ v7 = .bool (hits m (keys.take k) t) ∧ Aside0 ((Kd.int .i64).R 3 wr w.heap.size (fun b => w.heap.size ≤ b) u5 (refSetUp m keys t)) ∧ Aside0 (Below w.heap.size w wr)) (fun _ v8 _ _ => keys.length - (intOf v8).toNat)
      case atStart => exact ⟨0, Nat.zero_le _, rfl, rfl, R5, B5⟩
      case round =>
        clear R5 B5
        obtain ⟨k, hk, rfl, rfl, R5, B5⟩ := hrel
        by_cases hkl : k < keys.length
        · obtain ⟨ad, eA, hcell⟩ := at_str (Kd.C_below HR.out B5.out) k hkl
          have hsz := HS.out keys[k] (List.getElem_mem hkl)
          have HN := Aside0.mk (hits_take m keys t k hkl)
          generalize keys[k] = s at *
          subst eA
          go_upto_region 11 with fail
          have HST := Aside0.mk (refstripe_calls s m wr hsz hn)
          generalize stripeF s m = q at *
          obtain ⟨b7, hb7⟩ : ∃ b, b = hits m (keys.take k) t := ⟨_, rfl⟩
          rw [← hb7] at HN ⊢
          clear hb7
          cases b7
          · go_wp2_with (first | (go_at_call 7; refine (HST.out).mono ?_; rintro e w6 ⟨rfl, hb6⟩; have B6 := Aside0.mk (below_step B5.out hb6); have R6 := Aside0.mk (Kd.R_below R5.out hb6); clear hb6))
            go_roundw
            case rel => exact ⟨k + 1, by omega, by go_num, by rw [HN.out, Bool.false_or], R6, B6⟩
            case measure => simp [intOf]; omega
          · go_wp2_with (first | (go_at_call 7; refine (HST.out).mono ?_; rintro e w6 ⟨rfl, hb6⟩; have B6 := Aside0.mk (below_step B5.out hb6); have R6 := Aside0.mk (Kd.R_below R5.out hb6); clear hb6))
            go_roundw
            case rel => exact ⟨k + 1, by omega, by go_num, by rw [HN.out, Bool.true_or], R6, B6⟩
            case measure => simp [intOf]; omega
        · obtain rfl : k = keys.length := by omega
          rw [List.take_length]
          have HN := Aside0.mk (refSetUp_succ m keys t)
          have hul := refSetUp_len m keys t
          obtain ⟨b7, hb7⟩ : ∃ b, b = hits m keys t := ⟨_, rfl⟩
          rw [← hb7] at HN ⊢
          clear hb7
          cases b7
          · go_wp2_with fail
            go_roundw
            case rel => exact ⟨t + 1, by omega, by go_num, ⟨by rw [HN.out, if_neg (by decide)]; exact R5.out⟩, B5⟩
            case measure => simp [intOf]; omega
          · go_wp2_with (first | ((with_reducible refine gate_builtin (b := .append) (xs := #[.tmp 40, .tmp 42]) rfl ?_); at_builtin; refine Kd.R_append (Kd.int .i64) (w0 := w) w.heap.size rfl (.tmp 40) (.tmp 42) 25 3 (.int .i64 0) 8 rfl Tryd.underlying25 infoInt rfl (by decide) (by omega) (u5) (refSetUp m keys t) ((t : Int)) ([.int .i64 (t : Int)]) (fun b => w.heap.size ≤ b) (fun _ => False) ?aV ?aX ?aP (fun _ hk => hk.elim) (fun b hb => Nat.le_trans B5.out.size hb) ?aO ?aB ?aS ?aL ?_; (case aV => rfl); (case aX => rfl); (case aP => exact rfl); (case aO => exact R5.out); (case aB => exact B5.out); (case aS => exact B5.out.size); (case aL => omega); intro v10 w10 ho hb hgr hat; have R10 := Aside0.mk ho; have B10 := Aside0.mk hb; clear ho hb hgr hat))
            go_roundw
            case rel => exact ⟨t + 1, by omega, by go_num, ⟨by rw [HN.out, if_pos rfl]; exact R10.out⟩, B10⟩
            case measure => simp [intOf]; omega
    · obtain rfl : t = m := by omega
      go_wp2_with fail
      go_ret
      exact ⟨_, rfl, by rw [hset]; exact R5.out, B5.out⟩
end Go.Proofs.YtcejkpjinmolhaaDoor.Dr
