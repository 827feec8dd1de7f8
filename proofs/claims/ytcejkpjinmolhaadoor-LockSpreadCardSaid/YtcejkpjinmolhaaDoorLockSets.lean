/- LockSets: the contract of the law. No condition. -/
import Derived.Test.YtcejkpjinmolhaaDoorDrSame
import Derived.Deep.DeepCutAuto
import Derived.Deep.DeepMust
namespace Go.Proofs.YtcejkpjinmolhaaDoor.Dr
open Go Go.RowKit Go.Proofs.YtcejkpjinmolhaaDoorW.PrintWords Go.Proofs.YtcejkpjinmolhaaDoorW.PrintLast Go.Proofs.YtcejkpjinmolhaaDoorW.PrintMore Go.Proofs.YtcejkpjinmolhaaDoor.PLockStripes
set_option linter.unusedVariables false
set_option linter.unusedSimpArgs false

theorem infoStr : (Tryd.prog.info? 9).map (fun i => (i.zero, i.size, i.bytes)) = some (some (.string ⟨#[]⟩), 1, 16) := by kernel_rfl
theorem two_row (w : World) (a b : ByteArray) (T : TypeId) : ReadsRow (fun (x : ByteArray) (cs : List Value) => cs = [Value.string x]) 1 (w.alloc (.cells #[.string a, .string b] T (0, 0))) (some ⟨w.heap.size, 0, none⟩) 2 [a, b] := by
  refine ⟨rfl, by decide, fun _ => ⟨_, rfl, fun j p hj => ⟨[.string p], rfl, rfl, fun i u hu => ?_⟩⟩⟩
  obtain rfl : i = 0 := by
    rcases i with _ | i
    · rfl
    · simp at hu
  obtain rfl : Value.string p = u := by simpa using hu
  rw [add_plain, cell_of_row _ _ _ _ T (0, 0) (heap_alloc_new w _)]
  rcases j with _ | _ | j
  · obtain rfl : a = p := by simpa using hj
    rfl
  · obtain rfl : b = p := by simpa using hj
    rfl
  · simp at hj
theorem setF_len (n : Int) (keys : List ByteArray) : (setF n keys).length ≤ keys.length := by
  unfold setF
  split
  · simp
  · refine Nat.le_trans (compact_le _) ?_
    rw [sortF_len]
    unfold stripesF
    rw [List.length_map]
    exact Nat.le_refl _
theorem cut_cap {P : Program} (t e : TypeId) {i : TypeInfo} (ht : P.underlying t = some (.slice e)) (hi : P.info? e = some i) (A : Option Addr) (n c m : Nat) (hm : m ≤ c) :
    ∀ W : World, (Instr.slice t (.slice A n c) none (some (.int .i64 (m : Int))) none).run P W = .ok (.slice A m c) W := by
  intro W
  have hel : P.elem t = e := by simp [Program.elem, ht]
  have hu : P.underlying t = some (.slice (P.elem t)) := by rw [hel]; exact ht
  have ha : (A.map fun x => x.add 0) = A := by cases A <;> simp [Addr.add]
  rw [run_slice_h W t A n c hu .i64 (m : Int) (by omega) (by omega), hel]
  simp [sizeOf, typeInfo, hi, sliced, Result.andThen, ha]
theorem C_frontS {w : World} {A : Option Addr} {xs ys : List ByteArray} (h : Kd.C Kd.string w A (xs ++ ys).length (xs ++ ys)) : Kd.C Kd.string w A xs.length xs := by
  obtain ⟨h1, h2, h3⟩ := h
  rw [List.length_append] at h2
  refine ⟨rfl, by omega, fun hp => ?_⟩
  obtain ⟨ad, e, hc⟩ := h3 (by rw [List.length_append]; omega)
  refine ⟨ad, e, fun j p hj => hc j p ?_⟩
  rw [List.getElem?_append_left (List.getElem?_eq_some_iff.1 hj).1]
  exact hj

set_option maxRecDepth 100000 in
set_option maxHeartbeats 4000000 in
theorem sets_true (A : Option Addr) (c : Nat) (keys : List ByteArray) (n : Int) (w : World) (hT : Tab w) (hr : Kd.C Kd.string w A keys.length keys) (hc : keys.length ≤ c) (hs : ∀ s ∈ keys, s.size ≤ 140737488351232) (hg : keys.length * 16 ≤ 140737488351232) (hn : (Lit.int .i64 n).wf = true) :
    Calls Tryd.prog 4 #[.slice A keys.length c, .int .i64 n] w fun e w' => e = .returned (.bool true) ∧ Below w.heap.size w w' := by
  have HT := Aside0.mk hT
  have HR := Aside0.mk hr
  have HC := Aside0.mk hc
  have HS := Aside0.mk hs
  have HW := Aside0.mk hn
  clear hT hr hc hs hn
  go_enter Tryd.func4, Tryd.ntmps4
  go_upto_region 3 with (first | ((with_reducible refine gate_builtin (b := .append) (xs := #[.tmp 10, .tmp 11]) rfl ?_); at_builtin; refine Kd.R_append_rows Kd.string (Rr := Kd.string.K w) (w0 := w) w.heap.size rfl (.tmp 10) (.tmp 11) 24 9 (.string ⟨#[]⟩) 16 rfl Tryd.underlying24 infoStr rfl (by decide) (by omega) (.slice none 0 0) ([]) (keys) (A) ((keys).length) (c) (fun _ => True) (fun _ => False) ?aV ?aX ?aO ?aR ?aK (fun _ hk => hk.elim) (fun _ _ => trivial) ?aB ?aS ?aL ?_; (case aV => rfl); (case aX => rfl); (case aO => exact Kd.R_nil _ _ _ _ _); (case aR => exact HR.out); (case aK => exact fun x cs h => h); (case aB => exact Below.refl _ _); (case aS => exact Nat.le_refl _); (case aL => (first | omega | (simp; omega))); intro v1 w1 ho hb hgr hat; rw [List.nil_append] at ho; obtain ⟨A1, c1, rfl, hc1, hC1⟩ := Kd.R_reads ho; clear hC1; have R1 := Aside0.mk ho; have B1 := Aside0.mk hb; have G1 := Aside0.mk hgr; clear ho hb hgr hat))
  go_upto_region 4 with (first | ((with_reducible refine gate_builtin (b := .append) (xs := #[.tmp 13, .tmp 14]) rfl ?_); at_builtin; refine Kd.R_append_rows Kd.string (Rr := fun (x : ByteArray) (cs : List Value) => cs = [Value.string x]) (w0 := w) w.heap.size rfl (.tmp 13) (.tmp 14) 24 9 (.string ⟨#[]⟩) 16 rfl Tryd.underlying24 infoStr rfl (by decide) (by omega) (.slice A1 keys.length c1) (keys) (([⟨#[109, 97, 114, 107]⟩, ⟨#[116, 119, 111]⟩] : List ByteArray)) (some ⟨w1.heap.size, 0, none⟩) ((([⟨#[109, 97, 114, 107]⟩, ⟨#[116, 119, 111]⟩] : List ByteArray)).length) (2) (fun _ => True) (fun _ => False) ?aV ?aX ?aO ?aR ?aK (fun _ hk => hk.elim) (fun _ _ => trivial) ?aB ?aS ?aL ?_; (case aV => rfl); (case aX => rfl); (case aO => exact Kd.R_alloc R1.out _); (case aR => exact two_row _ _ _ _); (case aK => exact fun x cs h => h); (case aB => exact B1.out.alloc B1.out.size _); (case aS => exact (by have := B1.out.size; simp; omega)); (case aL => (first | omega | (simp; omega))); intro v2 w2 ho hb hgr hat; have R2 := Aside0.mk ho; have B2 := Aside0.mk hb; have G2 := Aside0.mk hgr; clear ho hb hgr hat))
  obtain ⟨A2, c2, rfl, hc2, hC2⟩ := Kd.R_reads R2.out
  have hln : (keys ++ [⟨#[109, 97, 114, 107]⟩, ⟨#[116, 119, 111]⟩] : List ByteArray).length = keys.length + 2 := by simp
  have HP := Aside0.mk (C_frontS hC2)
  rw [hln] at hc2 hC2
  replace HP : Aside0 (Kd.string.C w2 A2 keys.length keys) := HP
  obtain ⟨i9, hi9, _⟩ := info_parts infoStr
  have hcut := cut_cap (P := Tryd.prog) 24 9 Tryd.underlying24 hi9 A2 (keys.length + 2) c2 keys.length (by omega)
  have hcut2 := cut_cap (P := Tryd.prog) 24 9 Tryd.underlying24 hi9 A2 keys.length c2 (keys.length + 2) (by omega)
  have HC2 := Aside0.mk hC2
  clear hC2
  have HSE := Aside0.mk (set_calls A2 c2 keys n w2 (tab_below HT.out B2.out) HP.out (by omega) HS.out hg HW.out)
  have HRS := Aside0.mk (fun w' h => refset_calls A c keys n w' (Kd.C_below HR.out h) HC.out HS.out hg HW.out)
  have hsl := setF_len n keys
  have HEQ := Aside0.mk (sets_same n keys)
  rw [← HEQ.out] at HRS
  generalize setF n keys = L at *
  go_upto_region 6 with (first | (go_at_call 8; refine (HSE.out).mono ?_; rintro e w3 ⟨v3, rfl, hr3, hb3, hT3⟩; obtain ⟨A3, c3, rfl, hc3, hC3⟩ := Kd.R_reads hr3; have C3 := Aside0.mk hC3; have B3 := Aside0.mk hb3; clear hr3 hb3 hT3 hC3))
  have BW3 := Aside0.mk (below_then B2.out B2.out.size B3.out)
  have HRT := Aside0.mk (HRS.out w3 BW3.out)
  go_upto_region 7 with (first | (go_at_call 9; refine (HRT.out).mono ?_; rintro e w4 ⟨v4, rfl, hr4, hb4⟩; obtain ⟨A4, c4, rfl, hc4, hC4⟩ := Kd.R_reads hr4; have C4 := Aside0.mk hC4; have B4 := Aside0.mk hb4; clear hr4 hb4 hC4))
  have HSA := Aside0.mk (same_calls A3 A4 c3 c4 L w4 (Kd.C_below C3.out B4.out) C4.out hc3 hc4 (by omega))
  have BW4 := Aside0.mk (below_then BW3.out BW3.out.size B4.out)
  go_upto_region 9 with (first | (go_at_call 10; refine (HSA.out).mono ?_; rintro e w5 ⟨rfl, hb5⟩; have B5 := Aside0.mk hb5; clear hb5))
  have BW5 := Aside0.mk (below_then BW4.out BW4.out.size B5.out)
  have OWN := Aside0.mk (Kd.C_below (Kd.C_below (Kd.C_below HC2.out B3.out) B4.out) B5.out)
  have OWP := Aside0.mk (Kd.C_below (Kd.C_below (Kd.C_below HP.out B3.out) B4.out) B5.out)
  clear HSE HRS HRT HSA HEQ
  go_wp2_with fail
  go_loopw [4, 8] (fun v4 v8 wr => ∃ k : Nat, k ≤ keys.length ∧ v8 = .int .i64 k ∧ Aside0 (Below w5.heap.size w5 wr)) (fun _ v8 _ => keys.length - (intOf v8).toNat)
  case atStart => exact ⟨0, Nat.zero_le _, rfl, ⟨Below.refl _ _⟩⟩
  case round =>
    obtain ⟨k, hk, rfl, B6⟩ := hrel
    by_cases hlt : k < keys.length
    · obtain ⟨ad, eA, hcA⟩ := at_str (Kd.C_below OWP.out B6.out) k hlt
      obtain ⟨bd, eB, hcB⟩ := at_str (Kd.C_below (Kd.C_below HR.out BW5.out) B6.out) k hlt
      generalize keys[k] = s at *
      subst eA eB
      have i0 : (0 : Int) ≤ (k : Int) := by omega
      have i1 : (k : Int) < (keys.length : Int) := by omega
      go_wp2_with fail
      go_quiet (fail)
      go_wp2_with fail
      go_roundw
      case rel => exact ⟨k + 1, by omega, by go_num, ⟨by first | exact B6.out | exact pw_below_drewN B6.out _⟩⟩
      case measure => simp [intOf]; omega
    · obtain rfl : k = keys.length := by omega
      have OWM := Kd.C_below OWN.out B6.out
      rw [← hln] at OWM
      obtain ⟨ad, eA, hm1⟩ := at_str OWM keys.length (by rw [hln]; omega)
      obtain ⟨ad', eA', hm2⟩ := at_str OWM (keys.length + 1) (by rw [hln]; omega)
      obtain rfl := Option.some.inj (eA.symm.trans eA')
      clear eA' OWM
      subst eA
      rw [show (keys ++ [⟨#[109, 97, 114, 107]⟩, ⟨#[116, 119, 111]⟩] : List ByteArray)[keys.length]'(by rw [hln]; omega) = ⟨#[109, 97, 114, 107]⟩ by simp] at hm1
      rw [show (keys ++ [⟨#[109, 97, 114, 107]⟩, ⟨#[116, 119, 111]⟩] : List ByteArray)[keys.length + 1]'(by rw [hln]; omega) = ⟨#[116, 119, 111]⟩ by simp [List.getElem_append_right]] at hm2
      rw [show ad.add (keys.length + 1) = ⟨ad.block, ad.off + (keys.length + 1), none⟩ from by unfold Addr.add; split <;> simp_all] at hm2
      have i0 : (0 : Int) ≤ (keys.length : Int) := by omega
      have i1 : (keys.length : Int) < ((keys.length + 2 : Nat) : Int) := by omega
      have i2 : ((keys.length + 1 : Nat) : Int) < ((keys.length + 2 : Nat) : Int) := by omega
      have i3 : IntKind.i64.wrap ((keys.length : Int) + 2) = ((keys.length + 2 : Nat) : Int) := by rw [Go.IntWalk.i64_in _ (by omega)]; omega
      have i4 : IntKind.i64.wrap ((keys.length : Int) + 1) = ((keys.length + 1 : Nat) : Int) := by rw [Go.IntWalk.i64_in _ (by omega)]; omega
      have i5 : ((keys.length : Int) + 1).toNat = keys.length + 1 := by omega
      clear hln
      go_wp2_with fail
      go_ret
      exact ⟨rfl, below_then BW5.out BW5.out.size B6.out⟩
end Go.Proofs.YtcejkpjinmolhaaDoor.Dr
