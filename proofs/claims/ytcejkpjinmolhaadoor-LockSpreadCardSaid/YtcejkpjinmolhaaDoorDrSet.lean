/- lock.Set. No condition. -/
import Derived.Test.YtcejkpjinmolhaaDoorDrStripe
import Derived.Test.YtcejkpjinmolhaaDoorDrSort
import Derived.Deep.DeepCutAuto
namespace Go.Proofs.YtcejkpjinmolhaaDoor.Dr
open Go Go.RowKit Go.Proofs.YtcejkpjinmolhaaDoorW.PrintWords Go.Proofs.YtcejkpjinmolhaaDoorW.PrintLast Go.Proofs.YtcejkpjinmolhaaDoorW.PrintMore Go.Proofs.YtcejkpjinmolhaaDoor.PLockStripes
set_option linter.unusedVariables false
set_option linter.unusedSimpArgs false

theorem infoInt : (Tryd.prog.info? 3).map (fun i => (i.zero, i.size, i.bytes)) = some (some (.int .i64 0), 1, 8) := by kernel_rfl
def stripesF (n : Int) (keys : List ByteArray) : List Int := keys.map (fun s => stripeF s n)
def setF (n : Int) (keys : List ByteArray) : List Int := if n < 1 ∨ n > 64 then [] else Lib.compact (sortF (stripesF n keys))
theorem at_str {w : World} {A : Option Addr} {xs : List ByteArray} (h : Kd.C Kd.string w A xs.length xs) (i : Nat) (hi : i < xs.length) : ∃ ad, A = some ad ∧ w.cell? (ad.add i) = some (.string xs[i]) := by
  obtain ⟨ad, c, e, hl, hK, hc⟩ := Kd.C_get h ByteArray.empty (i : Int) (by omega) (by omega)
  rw [Int.toNat_natCast] at *
  rw [show xs.getD i ByteArray.empty = xs[i] by rw [List.getD_eq_getElem?_getD, List.getElem?_eq_getElem hi]; rfl] at hK
  have hK' : c = [.string xs[i]] := hK
  subst hK'
  refine ⟨ad, e, ?_⟩
  have := hc 0 _ rfl
  rw [show i * Kd.string.sz + 0 = i from by show i * 1 + 0 = i; omega] at this
  exact this

set_option maxRecDepth 100000 in
set_option maxHeartbeats 4000000 in
theorem set_calls (A : Option Addr) (c : Nat) (keys : List ByteArray) (n : Int) (w : World) (hT : Tab w) (hr : Kd.C Kd.string w A keys.length keys) (hc : keys.length ≤ c) (hs : ∀ s ∈ keys, s.size ≤ 140737488351232) (hg : keys.length * 16 ≤ 140737488351232) (hn : (Lit.int .i64 n).wf = true) :
    Calls Tryd.prog 8 #[.slice A keys.length c, .int .i64 n] w fun e w' => ∃ v, e = .returned v ∧ (Kd.int .i64).R 3 w' w.heap.size (fun b => w.heap.size ≤ b) v (setF n keys) ∧ Below w.heap.size w w' ∧ Tab w' := by
  have HT := Aside0.mk hT
  have HR := Aside0.mk hr
  have HC := Aside0.mk hc
  have HS := Aside0.mk hs
  clear hT hr hc hs
  by_cases h1 : n < 1
  · have d1 : decide (n < 1) = true := decide_eq_true h1
    go_enter Tryd.func8, Tryd.ntmps8
    go_wp2_with fail
    go_ret
    exact ⟨_, rfl, by unfold setF; rw [if_pos (Or.inl h1)]; exact Kd.R_nil _ _ _ _ _, Below.refl _ _, HT.out⟩
  by_cases h2 : n > 64
  · have d1 : decide (n < 1) = false := decide_eq_false h1
    have d2 : decide (n > 64) = true := decide_eq_true h2
    go_enter Tryd.func8, Tryd.ntmps8
    go_wp2_with fail
    go_ret
    exact ⟨_, rfl, by unfold setF; rw [if_pos (Or.inr h2)]; exact Kd.R_nil _ _ _ _ _, Below.refl _ _, HT.out⟩
  have d1 : decide (n < 1) = false := decide_eq_false h1
  have d2 : decide (n > 64) = false := decide_eq_false h2
  have hset : setF n keys = Lib.compact (sortF (stripesF n keys)) := by unfold setF; rw [if_neg (by omega)]
  go_enter Tryd.func8, Tryd.ntmps8
  go_wp2_with fail
  go_loopw [5, 7, 16] (fun v5 v7 v16 wr => ∃ k : Nat, k ≤ keys.length ∧ v16 = .int .i64 k ∧ Aside0 ((Kd.int .i64).R 3 wr w.heap.size (fun b => w.heap.size ≤ b) v5 (stripesF n (keys.take k))) ∧ Aside0 (Below w.heap.size w wr)) (fun _ _ v16 _ => keys.length - (intOf v16).toNat)
  case atStart => exact ⟨0, Nat.zero_le _, rfl, ⟨Kd.R_nil _ _ _ _ _⟩, ⟨Below.refl _ _⟩⟩
  case round =>
    obtain ⟨k, hk, rfl, R5, B5⟩ := hrel
    by_cases hlt : k < keys.length
    · obtain ⟨ad, eA, hcell⟩ := at_str (Kd.C_below HR.out B5.out) k hlt
      have hsz := HS.out keys[k] (List.getElem_mem hlt)
      have HN := Aside0.mk (show stripesF n (keys.take (k + 1)) = stripesF n (keys.take k) ++ [stripeF keys[k] n] by unfold stripesF; rw [List.take_succ_eq_append_getElem hlt, List.map_append]; rfl)
      generalize keys[k] = s at *
      subst eA
      have hul : (stripesF n (keys.take k)).length ≤ k := by unfold stripesF; rw [List.length_map, List.length_take]; omega
      go_upto_region 7 with fail
      have HST := Aside0.mk (stripe_calls s n wr (tab_below HT.out B5.out) hsz hn)
      generalize stripeF s n = q at *
      go_wp2_with (first | (go_at_call 6; refine (HST.out).mono ?_; rintro e w6 ⟨rfl, hb6, hT6⟩; have B6 := Aside0.mk (below_step B5.out hb6); have R6 := Aside0.mk (Kd.R_below R5.out hb6); have T6 := Aside0.mk hT6; clear hb6 hT6) | ((with_reducible refine gate_builtin (b := .append) (xs := #[.tmp 20, .tmp 24]) rfl ?_); at_builtin; refine Kd.R_append (Kd.int .i64) (w0 := w) w.heap.size rfl (.tmp 20) (.tmp 24) 25 3 (.int .i64 0) 8 rfl Tryd.underlying25 infoInt rfl (by decide) (by omega) (u5) (stripesF n (keys.take k)) (q) ([.int .i64 q]) (fun b => w.heap.size ≤ b) (fun _ => False) ?aV ?aX ?aP (fun _ hk => hk.elim) (fun b hb => Nat.le_trans B6.out.size hb) ?aO ?aB ?aS ?aL ?_; (case aV => rfl); (case aX => rfl); (case aP => exact rfl); (case aO => exact R6.out); (case aB => exact B6.out); (case aS => exact B6.out.size); (case aL => omega); intro v10 w10 ho hb hgr hat; have R10 := Aside0.mk ho; have B10 := Aside0.mk hb; have G10 := Aside0.mk hgr; clear ho hb hgr hat))
      go_roundw
      case rel => exact ⟨k + 1, by omega, by go_num, ⟨by rw [HN.out]; exact R10.out⟩, B10⟩
      case measure => simp [intOf]; omega
    · obtain rfl : k = keys.length := by omega
      have hSL : (stripesF n keys).length = keys.length := by unfold stripesF; rw [List.length_map]
      have RS := R5.out
      rw [List.take_length] at RS
      have HSO := Aside0.mk (sort_calls RS (by omega) B5.out.size)
      have HCO : ∀ w1, (Kd.int .i64).R 3 w1 w.heap.size (fun b => w.heap.size ≤ b) u5 (sortF (stripesF n keys)) → _ := fun w1 h => compact_calls h (by rw [sortF_len]; omega)
      have HCO := Aside0.mk HCO
      clear RS
      go_wp2_with (first | (go_at_call 13; refine (HSO.out).mono ?_; rintro e w8 ⟨rfl, hr8, hb8⟩; have B8 := Aside0.mk (hb8 w B5.out); have R8 := Aside0.mk hr8; clear hb8 hr8) | (go_at_call 14; refine (HCO.out _ R8.out).mono ?_; rintro e w9 ⟨v9, rfl, hr9, hb9⟩; have B9 := Aside0.mk (hb9 w B8.out); have R9 := Aside0.mk hr9; clear hb9 hr9))
      go_ret
      exact ⟨_, rfl, by rw [hset]; exact R9.out, B9.out, tab_below HT.out B9.out⟩
end Go.Proofs.YtcejkpjinmolhaaDoor.Dr
