/- LinUntils: the law's walk. No condition. -/
import Derived.Test.YtkjbbihnhbaipaaLuKept
import Derived.Test.YtkjbbihnhbaipaaLuRef
import Derived.Test.YtkjbbihnhbaipaaLuShape
import Derived.Deep.DeepCutAuto
namespace Go.Proofs.Ytkjbbihnhbaipaa.Lu
open Go.RowKit Go.Proofs.YtkjbbihnhbaipaaW.PrintWords Go.Proofs.YtkjbbihnhbaipaaW.PrintLast Go.Proofs.YtkjbbihnhbaipaaW.PrintMore Go.Proofs.Ytkjbbihnhbaipaa.Mk Go.Proofs.Ytkjbbihnhbaipaa.PLinUntils
set_option linter.unusedVariables false
set_option linter.unusedSimpArgs false

set_option maxRecDepth 100000 in
set_option maxHeartbeats 8000000 in
theorem untils_true (A : Option Addr) (c : Nat) (l : List S35) (m : Int) (w : World) (hr : Kd.C k35 w A l.length l) (hc : l.length ≤ c) (hg : ∀ y ∈ l, y.f0.f2.length * 24 ≤ 140737488351232 ∧ y.f1.f3.length * 32 ≤ 140737488351232) (hg2 : l.length * 168 ≤ 140737488351232) (hm : (Lit.int .i64 m).wf = true) :
    Calls Try.prog 4 #[.slice A l.length c, .int .i64 m] w fun e w' => e = .returned (.bool true) ∧ Below w.heap.size w w' := by
  have HR := Aside0.mk hr
  have HC := Aside0.mk hc
  have HG := Aside0.mk hg
  have hl : l.length ≤ 1125899906842624 := by omega
  have hu35 := Try.underlying35
  obtain ⟨kk, r1, r2, HK1, HK2⟩ : ∃ k r1 r2, Aside0 (lin_Check.f k l = some (r1, r2)) ∧ Aside0 (larderref16_Until.f k l m = some (if r1 = 0 then untilF m l else [])) := by obtain ⟨k, r1, r2, h1, h2⟩ := untils l m hg hg2; exact ⟨k, r1, r2, ⟨h1⟩, ⟨h2⟩⟩
  have hga : ∀ y ∈ (if r1 = 0 then untilF m l else []), y.f0.f2.length * 24 ≤ 140737488351232 ∧ y.f1.f3.length * 32 ≤ 140737488351232 := by
    split
    · exact untilF_good hg
    · intro y hy; cases hy
  have hla : (if r1 = 0 then untilF m l else []).length ≤ 1125899906842624 := by
    split
    · exact Nat.le_trans (untilF_len m l) hl
    · simp
  have UC := fun (A : Option Addr) (c : Nat) (w : World) (hr : Kd.C k35 w A l.length l) (hc : l.length ≤ c) => until_calls A c l m kk r1 r2 w hr hc hg hg2 HK1.out
  have HGA := Aside0.mk hga
  have HUC := Aside0.mk UC
  clear UC hga hr hc hg
  generalize (if r1 = 0 then untilF m l else []) = la at *
  go_enter Try.func4, Try.ntmps4
  go_wp2_with (first | ((with_reducible refine gate_callee (f := 6) rfl ?_); refine goesL_ (some 12) rfl rfl Try.func6 (by kernel_rfl) rfl #[.slice A l.length c] rfl (by (try simp only [List.map_toArray, List.map_cons, List.map_nil]); first | done | rfl) ?_; (with_reducible refine (twin_calls A c l _ HR.out HC.out HG.out hg2).mono ?_); rintro e w1 ⟨A', c', rfl, hT, hb⟩; refine ⟨_, rfl, ?_⟩; have B1 := Aside0.mk hb; have hc' := hT.1; have HTW := Aside0.mk hT; clear hb hT) | ((with_reducible refine gate_callee (f := 12) rfl ?_); refine goesL_ (some 15) rfl rfl Try.func12 (by kernel_rfl) rfl #[.slice A' l.length c', .int .i64 m] rfl (by (try simp only [List.map_toArray, List.map_cons, List.map_nil]); first | done | rfl) ?_; (with_reducible refine (HUC.out A' c' _ HTW.out.plain (by omega)).mono ?_); rintro e w2 ⟨v2, rfl, ho, hb⟩; refine ⟨_, rfl, ?_⟩; obtain ⟨Aa, ca, ea, hca, hCa⟩ := Kd.R_reads ho; subst ea; have RA := Aside0.mk ho; have CA := Aside0.mk hCa; have B2 := Aside0.mk hb; clear ho hb hCa) | ((with_reducible refine gate_callee (f := 13) rfl ?_); refine goesL_ (some 18) rfl rfl Try.func13 (by kernel_rfl) rfl #[.slice A l.length c, .int .i64 m] rfl (by (try simp only [List.map_toArray, List.map_cons, List.map_nil]); first | done | rfl) ?_; (with_reducible refine (larderref16_Until.calls kk _ _ l m la _ (Kd.C_below HR.out (below_step B1.out B2.out)) HC.out HK2.out).mono ?_); rintro e w3 ⟨v3, rfl, ho, hb⟩; refine ⟨_, rfl, ?_⟩; obtain ⟨Ab, cb, eb, hcb, hCb⟩ := Kd.S_reads ho; subst eb; have CB := Aside0.mk hCb; have CA3 := Aside0.mk (Kd.C_below CA.out hb); have B23 := Aside0.mk hb; have B3 := Aside0.mk (below_step B2.out hb); clear ho hb hCb) | ((with_reducible refine gate_callee (f := 14) rfl ?_); refine goesL_ (some 21) rfl rfl Try.func14 (by kernel_rfl) rfl #[.slice Aa la.length ca, .slice Ab la.length cb] rfl (by (try simp only [List.map_toArray, List.map_cons, List.map_nil]); first | done | rfl) ?_; (with_reducible refine (larderlaw16_sameOps.calls _ _ _ la _ _ la true _ CA3.out hca CB.out hcb (sameOps_self la HGA.out hla)).mono ?_); rintro e w4 ⟨rfl, hb⟩; refine ⟨_, rfl, ?_⟩; have B34 := Aside0.mk hb; have B24 := Aside0.mk (below_step B23.out hb); clear hb))
  have B4 := Aside0.mk (below_step B3.out B34.out)
  obtain ⟨Ax, cx, ex, SH⟩ := Sh_of_R (Kd.R_below RA.out B24.out) (fun y hy => by have := HGA.out y hy; omega)
  cases ex
  have SH0 := Aside0.mk SH
  clear SH
  obtain ⟨B, hB⟩ : ∃ B, B = w1.heap.size := ⟨_, rfl⟩
  rw [← hB] at B4 SH0
  go_loopw [8, 9, 10] (fun v8 v9 v10 wr => ∃ i : Nat, i ≤ la.length ∧ v8 = .int .i64 i ∧ Aside0 (Sh B wr Aa la.length) ∧ Aside0 (Below B w1 wr)) (fun v8 _ _ _ => la.length - (intOf v8).toNat)
  case atStart => exact ⟨0, Nat.zero_le _, rfl, SH0, B4⟩
  case round =>
    clear SH0 B4
    obtain ⟨i, hi, rfl, SH1, B5⟩ := hrel
    by_cases hlt : i < la.length
    · obtain ⟨ad, A2, n2, c2, A9, n9, c9, eA, hbA, ⟨⟨z11, h11⟩, f11⟩, h2, r2', h9, r9'⟩ := SH1.out i hlt
      subst eA
      have h11' : wr.cell? ⟨(ad.add (i * 14)).block, (ad.add (i * 14)).off + 11, none⟩ = some (.int .i64 z11) := h11
      have f11' : wr.frozen? ⟨(ad.add (i * 14)).block, (ad.add (i * 14)).off + 11, none⟩ = false := f11
      have hI11 : IntAt wr (fld ad (i * 14) 11) := ⟨⟨z11, h11⟩, f11⟩
      have hbB : B ≤ (fld ad (i * 14) 11).block := by unfold fld; rw [show (ad.add (i * 14)).block = ad.block by unfold Addr.add; split <;> rfl]; exact hbA
      have SH2 := Aside0.mk (SH1.out.set hI11 (-3))
      have B6 := Aside0.mk (B5.out.setCell hbB (.int .i64 (-3)))
      have C2 := Aside0.mk (hI11.slice h2 (-3))
      have R2 := Aside0.mk (r2'.set hI11 (-3))
      clear h11 f11 hI11 hbB h2 r2' h9 r9' SH1 B5
      go_upto_region 10 with fail
      obtain ⟨W1, hW1⟩ : ∃ W1, W1 = wr.setCell (fld ad (i * 14) 11) (.int .i64 (-3)) := ⟨_, rfl⟩
      rw [show wr.setCell ⟨(ad.add (i * 14)).block, (ad.add (i * 14)).off + 11, none⟩ (.int .i64 (-3)) = W1 from hW1.symm]
      rw [← hW1] at SH2 B6 C2 R2
      clear hW1 h11' f11'
      go_wp2_with fail
      go_loopw [9] (fun v9 wr => ∃ k : Nat, k ≤ n2 ∧ v9 = .int .i64 k ∧ Aside0 (Sh B wr (some ad) la.length) ∧ Aside0 (Below B w1 wr) ∧ Aside0 (wr.cell? (fld ad (i * 14) 2) = some (.slice A2 n2 c2)) ∧ Aside0 (RowInts B wr A2 n2 2 1)) (fun v9 _ => n2 - (intOf v9).toNat)
      case atStart => exact ⟨0, Nat.zero_le _, rfl, SH2, B6, C2, R2⟩
      case round =>
        clear SH2 B6 C2 R2
        obtain ⟨k, hk, rfl, SH3, B7, C3, R3⟩ := hrel
        have hc2 : wr.cell? ⟨(ad.add (i * 14)).block, (ad.add (i * 14)).off + 2, none⟩ = some (.slice A2 n2 c2) := C3.out
        by_cases hk2 : k < n2
        · obtain ⟨a2, e2, hb2, hI⟩ := R3.out.2 k hk2
          subst e2
          obtain ⟨⟨z2, hz2⟩, fz2⟩ := hI
          have hI2 : IntAt wr (fld a2 (k * 2) 1) := ⟨⟨z2, hz2⟩, fz2⟩
          have hz2' : wr.cell? ⟨(a2.add (k * 2)).block, (a2.add (k * 2)).off + 1, none⟩ = some (.int .i64 z2) := hz2
          have fz2' : wr.frozen? ⟨(a2.add (k * 2)).block, (a2.add (k * 2)).off + 1, none⟩ = false := fz2
          have hbB : B ≤ (fld a2 (k * 2) 1).block := by unfold fld; rw [show (a2.add (k * 2)).block = a2.block by unfold Addr.add; split <;> rfl]; exact hb2
          have SH4 := Aside0.mk (SH3.out.set hI2 (-9))
          have B8 := Aside0.mk (B7.out.setCell hbB (.int .i64 (-9)))
          have C4 := Aside0.mk (hI2.slice C3.out (-9))
          have R4 := Aside0.mk (R3.out.set hI2 (-9))
          have hn2 := R3.out.1
          clear hz2 fz2 hI2 hbB SH3 B7 C3 R3
          go_wp2_with fail
          go_roundw
          case rel => exact ⟨k + 1, by omega, by go_num, SH4, B8, C4, R4⟩
          case measure => simp [intOf]; omega
        · obtain rfl : k = n2 := by omega
          obtain ⟨ad', A2', n2', c2', A9, n9, c9, eA, _, _, _, _, h9, r9⟩ := SH3.out i hlt
          cases eA
          have C9 := Aside0.mk h9
          have R9 := Aside0.mk r9
          clear h9 r9
          go_wp2_with fail
          clear hc2
          go_loopw [10] (fun v10 wr => ∃ k : Nat, k ≤ n9 ∧ v10 = .int .i64 k ∧ Aside0 (Sh B wr (some ad) la.length) ∧ Aside0 (Below B w1 wr) ∧ Aside0 (wr.cell? (fld ad (i * 14) 9) = some (.slice A9 n9 c9)) ∧ Aside0 (RowInts B wr A9 n9 3 2)) (fun v10 _ => n9 - (intOf v10).toNat)
          case atStart => exact ⟨0, Nat.zero_le _, rfl, SH3, B7, C9, R9⟩
          case round =>
            clear SH3 B7 C9 R9 C3 R3
            obtain ⟨j, hj, rfl, SH3, B7, C3, R3⟩ := hrel
            have hc9 : wr.cell? ⟨(ad.add (i * 14)).block, (ad.add (i * 14)).off + 9, none⟩ = some (.slice A9 n9 c9) := C3.out
            by_cases hk9 : j < n9
            · obtain ⟨a9, e9, hb9, hI⟩ := R3.out.2 j hk9
              subst e9
              obtain ⟨⟨z9, hz9⟩, fz9⟩ := hI
              have hI9 : IntAt wr (fld a9 (j * 3) 2) := ⟨⟨z9, hz9⟩, fz9⟩
              have hz9' : wr.cell? ⟨(a9.add (j * 3)).block, (a9.add (j * 3)).off + 2, none⟩ = some (.int .i64 z9) := hz9
              have fz9' : wr.frozen? ⟨(a9.add (j * 3)).block, (a9.add (j * 3)).off + 2, none⟩ = false := fz9
              have hbB : B ≤ (fld a9 (j * 3) 2).block := by unfold fld; rw [show (a9.add (j * 3)).block = a9.block by unfold Addr.add; split <;> rfl]; exact hb9
              have SH4 := Aside0.mk (SH3.out.set hI9 (-9))
              have B8 := Aside0.mk (B7.out.setCell hbB (.int .i64 (-9)))
              have C4 := Aside0.mk (hI9.slice C3.out (-9))
              have R4 := Aside0.mk (R3.out.set hI9 (-9))
              have hn9 := R3.out.1
              clear hz9 fz9 hI9 hbB SH3 B7 C3 R3
              go_wp2_with fail
              go_roundw
              case rel => exact ⟨j + 1, by omega, by go_num, SH4, B8, C4, R4⟩
              case measure => simp [intOf]; omega
            · obtain rfl : j = n9 := by omega
              go_wp2_with fail
              go_roundw
              case rel => exact ⟨i + 1, by omega, by go_num, SH3, B7⟩
              case measure => simp [intOf]; omega
    · obtain rfl : i = la.length := by omega
      rw [hB] at B5
      go_wp2_with (first | ((with_reducible refine gate_callee (f := 11) rfl ?_); refine goesL_ (some 75) rfl rfl Try.func11 (by kernel_rfl) rfl #[.slice A' l.length c', .slice A l.length c] rfl (by (try simp only [List.map_toArray, List.map_cons, List.map_nil]); first | done | rfl) ?_; (with_reducible refine (kept_calls A' c' A c l _ (HTW.out.below B5.out) (Kd.C_below HR.out (below_step B1.out B5.out)) HC.out HG.out hl).mono ?_); rintro e w9 ⟨rfl, hb⟩; refine ⟨_, rfl, ?_⟩; have B9 := Aside0.mk (below_step (below_step B1.out B5.out) hb); clear hb))
      go_ret
      exact ⟨rfl, B9.out⟩
end Go.Proofs.Ytkjbbihnhbaipaa.Lu
