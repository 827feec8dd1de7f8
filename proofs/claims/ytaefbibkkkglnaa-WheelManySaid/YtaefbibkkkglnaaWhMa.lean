/- WheelMany: the contract of the law. No condition but the reach. -/
import Derived.Test.YtaefbibkkkglnaaWhM
import Derived.Test.YtaefbibkkkglnaaWhEq
import Derived.OpenShut
import Derived.Deep.DeepMust
namespace Go.Proofs.Ytaefbibkkkglnaa.Wh
open Go Go.RowKit Go.Proofs.YtaefbibkkkglnaaW.PrintWords Go.Proofs.Ytaefbibkkkglnaa.Mp Go.Proofs.Ytaefbibkkkglnaa.Fr
set_option linter.unusedVariables false
set_option linter.unusedSimpArgs false
set_option maxRecDepth 100000 in
set_option maxHeartbeats 4000000 in
theorem many_true (x0 : Int) (A1 : Option Addr) (c1 : Nat) (far : List Int) (x2 : Int) (A3 : Option Addr) (c3 : Nat) (stops : List Int) (w : World) (h1 : Kd.C (Kd.int .i64) w A1 far.length far) (hc1 : far.length ≤ c1) (h3 : Kd.C (Kd.int .i64) w A3 stops.length stops) (hc3 : stops.length ≤ c3)
    (hx0 : -9223372036854775808 ≤ x0 ∧ x0 ≤ 9223372036854775807) (hx2 : -9223372036854775808 ≤ x2 ∧ x2 ≤ 9223372036854775807) (hf : ∀ x ∈ far, -9223372036854775808 ≤ x ∧ x ≤ 9223372036854775807) (hs : ∀ x ∈ stops, -9223372036854775808 ≤ x ∧ x ≤ 9223372036854775807) (hcc : far.length ≤ 4611686018427387904) (hsl : stops.length ≤ 4611686018427387904) :
    Calls Try.prog 4 #[.int .i64 x0, .slice A1 far.length c1, .int .i64 x2, .slice A3 stops.length c3] w fun e w' => e = .returned (.bool true) ∧ Below w.heap.size w w' := by
  have hb0 := winF_bd (lo := 0) (hi := 549755813887) hx0.1 hx0.2 (by omega)
  have hb2 := winF_bd (lo := 0) (hi := 549755813888) hx2.1 hx2.2 (by omega)
  have hfl : (far.take 400).length = min far.length 400 := by rw [List.length_take]; omega
  have h1' := Kd.C_take (m := min far.length 400) h1 (by omega)
  rw [show far.take (min far.length 400) = far.take 400 from by rw [List.take_eq_take_iff]; omega] at h1'
  have hf' : ∀ x ∈ far.take 400, -9223372036854775808 ≤ x ∧ x ≤ 9223372036854775807 := fun x hx => hf x (List.mem_of_mem_take hx)
  have HF := Aside0.mk (show ∀ w, Calls Try.prog 11 #[.slice A1 far.length c1] w fun e w' => e = .returned (.slice A1 (far.take 400).length c1) ∧ w = w' from fun w => by rw [hfl]; exact few_calls A1 far.length c1 w hc1 hcc)
  generalize hfs : far.take 400 = fs at *
  have hfs4 : fs.length ≤ 400 := by omega
  have hfsc : fs.length ≤ c1 := by omega
  have H1 := Aside0.mk h1'
  have H3 := Aside0.mk h3
  have HN := Aside0.mk (show ∀ w, Calls Try.prog 10 #[.int .i64 x0, .int .i64 0, .int .i64 549755813887] w fun e w' => e = .returned (.int .i64 (winF x0 0 549755813887)) ∧ w = w' from fun w => within_calls x0 0 549755813887 w hx0.1 hx0.2 (by omega) (by omega) (by omega))
  have HT := Aside0.mk (show ∀ w, Calls Try.prog 10 #[.int .i64 x2, .int .i64 0, .int .i64 549755813888] w fun e w' => e = .returned (.int .i64 (winF x2 0 549755813888)) ∧ w = w' from fun w => within_calls x2 0 549755813888 w hx2.1 hx2.2 (by omega) (by omega) (by omega))
  generalize winF x0 0 549755813887 = now at *
  generalize winF x2 0 549755813888 = to' at *
  obtain ⟨n0, n1⟩ := hb0
  obtain ⟨t0, t1⟩ := hb2
  have HS := Aside0.mk hs
  have HFS := Aside0.mk hf'
  have ew : IntKind.i64.wrap (now + to') = now + to' := IntWalk.i64_in _ (by omega)
  clear h1 h1' h3 hf hs hf' hfs hfl hc1 hx0 hx2 hcc
  go_enter Try.func4, Try.ntmps4
  go_wp2_with fail
  refine (HN.out _).mono ?_
  rintro e w' ⟨rfl, rfl⟩
  go_wp2_with fail
  refine (HF.out _).mono ?_
  rintro e w' ⟨rfl, rfl⟩
  go_wp2_with fail
  refine (filled_calls now A1 c1 fs w n0 (by omega) HFS.out H1.out hfs4 hfsc).mono ?_
  rintro e w1 ⟨p1, O1, rfl, hW1, hO1, hB1⟩
  have HW1 := Aside0.mk hW1
  have HO1 := Aside0.mk hO1
  have HB1 := Aside0.mk hB1
  clear hW1 hO1 hB1
  go_wp2_with fail
  refine (filled_calls now A1 c1 fs _ n0 (by omega) HFS.out (Kd.C_below H1.out HB1.out) hfs4 hfsc).mono ?_
  rintro e w2 ⟨p2, O2, rfl, hW2, hO2, hB2⟩
  have hlate := fillL_late (now := now) (k := fs.length) (Nat.le_refl _) HFS.out
  have hsort := hW2.sorted
  have hlen : (fillL now fs fs.length).length ≤ 400 := by rw [fillL_len]; exact hfs4
  generalize fillL now fs fs.length = L at *
  have HL := Aside0.mk hlate
  have HSO := Aside0.mk hsort
  have HW2 := Aside0.mk hW2
  have HO2 := Aside0.mk hO2
  have HB2 := Aside0.mk hB2
  have HW1' := Aside0.mk (HW1.out.below hB2)
  clear hW2 hO2 hB2 hlate hsort
  go_wp2_with fail
  refine (HT.out _).mono ?_
  rintro e w' ⟨rfl, rfl⟩
  go_wp2_with fail
  generalize hend : now + to' = E at *
  refine (advance_calls HW1'.out E (by omega) (by omega) (by omega)).mono ?_
  rintro e w3 ⟨v12, rfl, hR12, hWa, hOa⟩
  have HOD := Aside0.mk (show ∀ b, O1 b → ¬ O2 b from fun b h1 h2 => by have := HW1.out.lt b h1; have := HO2.out b h2; omega)
  have HWb := Aside0.mk (HW2.out.only hOa (fun b h1 _ h2 => HOD.out b h2 h1))
  have HWa := Aside0.mk hWa
  have HR12 := Aside0.mk hR12
  have HOa := Aside0.mk hOa
  have HO2l := Aside0.mk (show ∀ b, O2 b → b < w2.heap.size from HW2.out.lt)
  clear hWa hR12 hOa HW2
  go_wp2_with fail
  have HB3 := Aside0.mk (show Below w.heap.size w w3 from HOa.out.below_of (HB1.out.trans (HB2.out.mono HB1.out.size)) (Nat.le_trans HB1.out.size HB2.out.size) (fun k hk h => by have := HO1.out k h; omega))
  have HB3 := Aside0.mk (show Below w.heap.size w w3 from HOa.out.below_of (HB1.out.trans (HB2.out.mono HB1.out.size)) (Nat.le_trans HB1.out.size HB2.out.size) (fun k hk h => by have := HO1.out k h; omega))
  have HB3 := Aside0.mk (show Below w.heap.size w w3 from HOa.out.below_of (HB1.out.trans (HB2.out.mono HB1.out.size)) (Nat.le_trans HB1.out.size HB2.out.size) (fun k hk h => by have := HO1.out k h; omega))
  have HB3 := Aside0.mk (show Below w.heap.size w w3 from HOa.out.below_of (HB1.out.trans (HB2.out.mono HB1.out.size)) (Nat.le_trans HB1.out.size HB2.out.size) (fun k hk h => by have := HO1.out k h; omega))
  have HB3 := Aside0.mk (show Below w.heap.size w w3 from HOa.out.below_of (HB1.out.trans (HB2.out.mono HB1.out.size)) (Nat.le_trans HB1.out.size HB2.out.size) (fun k hk h => by have := HO1.out k h; omega))
  have HB3 := Aside0.mk (show Below w.heap.size w w3 from HOa.out.below_of (HB1.out.trans (HB2.out.mono HB1.out.size)) (Nat.le_trans HB1.out.size HB2.out.size) (fun k hk h => by have := HO1.out k h; omega))
  go_loopg [14, 15, 16, 17, 18] stops.length (fun g v14 v15 v16 v17 v18 wx => ∃ (i : Nat) (T : Int), g = stops.length - i ∧ i ≤ stops.length ∧ v16 = .int .i64 i ∧ v15 = .int .i64 T ∧ now ≤ T ∧ T ≤ E ∧ Aside0 (Kd.string.R 9 wx w3.heap.size (fun _ => True) v14 ((toldF T L).map Prod.fst)) ∧ Aside0 (Whl wx O2 p2 T (leftF T L)) ∧ Aside0 (Only O2 w3 wx))
  case atStart =>
    have hh : ∀ e ∈ L, now < e.2 := fun e he => (HL.out e he).1
    refine ⟨0, now, rfl, by omega, rfl, rfl, by omega, by omega, ⟨?_⟩, ⟨?_⟩, ⟨Only.refl _ _⟩⟩
    · rw [told_none hh]
      exact Kd.R_nil _ _ _ _ _
    · rw [left_all hh]
      exact HWb.out
  case round =>
    obtain ⟨i, T, rfl, hi, rfl, rfl, hT0, hT1, HR14, HWX, HOX⟩ := hrel
    have HOB := Aside0.mk (show ∀ b, O2 b → b < w3.heap.size from fun b hb => Nat.lt_of_lt_of_le (HO2l.out b hb) HOa.out.size)
    rcases Nat.lt_or_ge i stops.length with h | h
    · rcases Nat.lt_or_ge i 300 with h' | h'
      · have hCx := Kd.C_below H3.out (HOX.out.below_of HB3.out HB3.out.size (fun k hk h => by have := HO2.out k h; have := HB1.out.size; omega))
        obtain ⟨ad, rfl, cc⟩ := at_I hCx i h
        obtain ⟨q0, q1⟩ := HS.out _ (List.getElem_mem h)
        generalize stops[i] = x at *
        have hbw := winF_bd (lo := 0) (hi := E - T) q0 q1 (by omega)
        have e1 : IntKind.i64.wrap (E - T) = E - T := IntWalk.i64_in _ (by omega)
        have HWI := Aside0.mk (show ∀ w, Calls Try.prog 10 #[.int .i64 x, .int .i64 0, .int .i64 (E - T)] w fun e w' => e = .returned (.int .i64 (winF x 0 (E - T))) ∧ w = w' from fun w => within_calls x 0 (E - T) w q0 q1 (by omega) (by omega) (by omega))
        generalize winF x 0 (E - T) = d at *
        have e2 : IntKind.i64.wrap (T + d) = T + d := IntWalk.i64_in _ (by omega)
        have i0 : (0 : Int) ≤ (i : Int) := by omega
        have i1 : (i : Int) < (stops.length : Int) := by omega
        have i2 : (i : Int) < 300 := by omega
        generalize hT2 : T + d = T2 at *
        go_wp2_with fail
        refine (HWI.out _).mono ?_
        rintro e w' ⟨rfl, rfl⟩
        go_wp2_with fail
        refine (advance_calls HWX.out T2 (by omega) (by omega) (by omega)).mono ?_
        rintro e w4 ⟨v5, rfl, hR5, hW4, hO4⟩
        have HR4 := Aside0.mk (R_over HR14.out hO4 (fun b hb => HOB.out b hb))
        obtain ⟨ys, hys⟩ : ∃ ys, ys = (toldF T2 (leftF T L)).map Prod.fst := ⟨_, rfl⟩
        have HYS := Aside0.mk hys
        rw [← hys] at hR5
        obtain ⟨A5, c5, rfl, hc5, hC5⟩ := Kd.R_reads hR5
        have HC5 := Aside0.mk hC5
        have HS4 := Aside0.mk (Nat.le_trans HOX.out.size hO4.size)
        have HL5 := Aside0.mk (show (((toldF T L).map Prod.fst).length + ys.length) * 16 ≤ 140737488355328 from by
          rw [hys]
          have e1 : (toldF T L).length ≤ L.length := List.length_filter_le _ _
          have e2 : (toldF T2 (leftF T L)).length ≤ (leftF T L).length := List.length_filter_le _ _
          have e3 : (leftF T L).length ≤ L.length := List.length_filter_le _ _
          rw [List.length_map, List.length_map]
          omega)
        have HW4 := Aside0.mk hW4
        have HO4 := Aside0.mk (HOX.out.trans hO4)
        clear hR5 hC5 hW4 hO4 hc5 hys
        go_wp2_with (first | ((with_reducible refine gate_builtin (b := .append) (xs := #[.tmp 76, .tmp 77]) rfl ?_); at_builtin; go_must ((refine Kd.R_append_rows Kd.string (Rr := Kd.string.K w4) (w0 := w4) w3.heap.size rfl (.tmp 76) (.tmp 77) 29 9 (.string ⟨#[]⟩) 16 rfl Try.underlying29 infoS rfl (by decide) (by omega) (u14) ((toldF T L).map Prod.fst) ys A5 ys.length c5 (fun _ => True) (fun _ => False) ?aV ?aX ?aO ?aR ?aK (fun _ hk => hk.elim) (fun _ _ => trivial) ?aB ?aS ?aL ?_; (case aV => rfl); (case aX => rfl); (case aO => exact HR4.out); (case aR => exact HC5.out); (case aK => exact fun x cs h => h); (case aB => exact Below.refl _ _); (case aS => exact HS4.out); (case aL => exact HL5.out); intro v6 w6 hR6 hB6 hg6 hat6; have HR6 := Aside0.mk hR6; have HG6 := Aside0.mk hg6; clear hR6 hB6 hg6 hat6))) | fail)
        have hn := HR6.out
        rw [HYS.out, ← List.map_append, told_step (show T ≤ T2 by omega) HSO.out] at hn
        go_roundg (stops.length - (i + 1))
        case measure => omega
        case rel =>
          refine ⟨i + 1, T2, rfl, by omega, by go_num, rfl, by omega, by omega, ⟨hn⟩, ⟨?_⟩, ⟨?_⟩⟩
          · have h := HW4.out.only (Only.of_grown HG6.out) (fun b h1 _ e => by have := Kd.R_base HR4.out b e.symm; have := HOB.out b h1; omega)
            rwa [left_step (show T ≤ T2 by omega)] at h
          · exact HO4.out.step (Only.of_grown HG6.out) (fun b hb e => by have := Kd.R_base HR4.out b e.symm; omega)
      · have i0 : (i : Int) < (stops.length : Int) := by omega
        have i1 : decide ((i : Int) < 300) = false := by simp; omega
        go_wp2_with fail
        refine (advance_calls HWX.out E (by omega) (by omega) (by omega)).mono ?_
        rintro e w4 ⟨v5, rfl, hR5, hW4, hO4⟩
        have HR4 := Aside0.mk (R_over HR14.out hO4 (fun b hb => HOB.out b hb))
        obtain ⟨ys, hys⟩ : ∃ ys, ys = (toldF E (leftF T L)).map Prod.fst := ⟨_, rfl⟩
        have HYS := Aside0.mk hys
        rw [← hys] at hR5
        obtain ⟨A5, c5, rfl, hc5, hC5⟩ := Kd.R_reads hR5
        have HC5 := Aside0.mk hC5
        have HS4 := Aside0.mk (Nat.le_trans HOX.out.size hO4.size)
        have HL5 := Aside0.mk (show (((toldF T L).map Prod.fst).length + ys.length) * 16 ≤ 140737488355328 from by
          rw [hys]
          have e1 : (toldF T L).length ≤ L.length := List.length_filter_le _ _
          have e2 : (toldF E (leftF T L)).length ≤ (leftF T L).length := List.length_filter_le _ _
          have e3 : (leftF T L).length ≤ L.length := List.length_filter_le _ _
          rw [List.length_map, List.length_map]
          omega)
        have HW4 := Aside0.mk hW4
        have HO4 := Aside0.mk (HOX.out.trans hO4)
        clear hR5 hC5 hW4 hO4 hc5 hys
        go_wp2_with (first | ((with_reducible refine gate_builtin (b := .append) (xs := #[.tmp 85, .tmp 86]) rfl ?_); at_builtin; go_must ((refine Kd.R_append_rows Kd.string (Rr := Kd.string.K w4) (w0 := w4) w3.heap.size rfl (.tmp 85) (.tmp 86) 29 9 (.string ⟨#[]⟩) 16 rfl Try.underlying29 infoS rfl (by decide) (by omega) (u14) ((toldF T L).map Prod.fst) ys A5 ys.length c5 (fun _ => True) (fun _ => False) ?aV ?aX ?aO ?aR ?aK (fun _ hk => hk.elim) (fun _ _ => trivial) ?aB ?aS ?aL ?_; (case aV => rfl); (case aX => rfl); (case aO => exact HR4.out); (case aR => exact HC5.out); (case aK => exact fun x cs h => h); (case aB => exact Below.refl _ _); (case aS => exact HS4.out); (case aL => exact HL5.out); intro v6 w6 hR6 hB6 hg6 hat6; have HR6 := Aside0.mk hR6; have HG6 := Aside0.mk hg6; clear hR6 hB6 hg6 hat6))) | fail)
        have hfin := HR6.out
        rw [HYS.out, ← List.map_append, told_step (show T ≤ E from hT1) HSO.out] at hfin
        have HO6 := Aside0.mk (HO4.out.step (Only.of_grown HG6.out) (fun b hb e => by have := Kd.R_base HR4.out b e.symm; omega))
        have HWB := Aside0.mk (show Whl w6 O2 p2 E (leftF E L) from by
          have h := HW4.out.only (Only.of_grown HG6.out) (fun b h1 _ e => by have := Kd.R_base HR4.out b e.symm; have := HOB.out b h1; omega)
          rwa [left_step hT1] at h)
        have HWA := Aside0.mk (HWa.out.only HO6.out (fun b h1 _ h2 => HOD.out b h1 h2))
        have hzl : ((toldF E L).map Prod.fst).length < 4611686018427387904 := by
          rw [List.length_map]
          have : (toldF E L).length ≤ L.length := List.length_filter_le _ _
          omega
        have HB6 := Aside0.mk (HO6.out.below_of HB3.out HB3.out.size (fun k hk h => by have := HO2.out k h; have := HB1.out.size; omega))
        have hr12 := R_over HR12.out HO6.out HO2l.out
        obtain ⟨zs, hzs⟩ : ∃ zs, zs = (toldF E L).map Prod.fst := ⟨_, rfl⟩
        rw [← hzs] at hr12 hfin hzl
        obtain ⟨A6, c6, rfl, hc6, hC6⟩ := Kd.R_reads hfin
        obtain ⟨A7, c7, rfl, hc7, hC7⟩ := Kd.R_reads hr12
        have HC := Aside0.mk (And.intro hC6 hC7)
        clear hfin hr12 hC6 hC7 hzs
        go_wp2_with fail
        refine (texts_calls A7 A6 c7 c6 zs _ HC.out.2 HC.out.1 hc7 hc6 hzl).mono ?_
        rintro e w7 ⟨rfl, n7, rfl⟩
        have HWA7 := Aside0.mk (HWA.out.drewN n7)
        have HWB7 := Aside0.mk (HWB.out.drewN n7)
        go_wp2_with fail
        refine (spread_calls HWA7.out).mono ?_
        rintro e w8 ⟨rfl, hB8⟩
        have HWB8 := Aside0.mk (HWB7.out.below hB8)
        have HWA8 := Aside0.mk (HWA7.out.below hB8)
        have HB8 := Aside0.mk hB8
        clear hB8 HWA7 HWB7
        go_wp2_with fail
        refine (spread_calls HWB8.out).mono ?_
        rintro e w9 ⟨rfl, hB9⟩
        have HWB9 := Aside0.mk (HWB8.out.below hB9)
        have HWA9 := Aside0.mk (HWA8.out.below hB9)
        have HB9 := Aside0.mk hB9
        clear hB9 HWA8 HWB8
        generalize spr E (leftF E L) = sf at *
        have hq7 := eq7_same sf
        unfold sprV at hq7 ⊢
        go_wp2_with fail
        refine (len_calls HWA9.out).mono ?_
        rintro e w10 ⟨rfl, rfl⟩
        go_wp2_with fail
        refine (len_calls HWB9.out).mono ?_
        rintro e w10 ⟨rfl, rfl⟩
        go_wp2_with fail
        refine (now_calls HWA9.out).mono ?_
        rintro e w10 ⟨rfl, rfl⟩
        go_wp2_with fail
        refine (now_calls HWB9.out).mono ?_
        rintro e w10 ⟨rfl, rfl⟩
        go_wp2_with fail
        go_ret
        exact ⟨rfl, ((pw_below_drewN HB6.out n7).trans (HB8.out.mono HB6.out.size)).trans (HB9.out.mono (Nat.le_trans HB6.out.size HB8.out.size))⟩
    · have i0 : decide ((i : Int) < (stops.length : Int)) = false := by simp; omega
      go_wp2_with fail
      refine (advance_calls HWX.out E (by omega) (by omega) (by omega)).mono ?_
      rintro e w4 ⟨v5, rfl, hR5, hW4, hO4⟩
      have HR4 := Aside0.mk (R_over HR14.out hO4 (fun b hb => HOB.out b hb))
      obtain ⟨ys, hys⟩ : ∃ ys, ys = (toldF E (leftF T L)).map Prod.fst := ⟨_, rfl⟩
      have HYS := Aside0.mk hys
      rw [← hys] at hR5
      obtain ⟨A5, c5, rfl, hc5, hC5⟩ := Kd.R_reads hR5
      have HC5 := Aside0.mk hC5
      have HS4 := Aside0.mk (Nat.le_trans HOX.out.size hO4.size)
      have HL5 := Aside0.mk (show (((toldF T L).map Prod.fst).length + ys.length) * 16 ≤ 140737488355328 from by
        rw [hys]
        have e1 : (toldF T L).length ≤ L.length := List.length_filter_le _ _
        have e2 : (toldF E (leftF T L)).length ≤ (leftF T L).length := List.length_filter_le _ _
        have e3 : (leftF T L).length ≤ L.length := List.length_filter_le _ _
        rw [List.length_map, List.length_map]
        omega)
      have HW4 := Aside0.mk hW4
      have HO4 := Aside0.mk (HOX.out.trans hO4)
      clear hR5 hC5 hW4 hO4 hc5 hys
      go_wp2_with (first | ((with_reducible refine gate_builtin (b := .append) (xs := #[.tmp 85, .tmp 86]) rfl ?_); at_builtin; go_must ((refine Kd.R_append_rows Kd.string (Rr := Kd.string.K w4) (w0 := w4) w3.heap.size rfl (.tmp 85) (.tmp 86) 29 9 (.string ⟨#[]⟩) 16 rfl Try.underlying29 infoS rfl (by decide) (by omega) (u14) ((toldF T L).map Prod.fst) ys A5 ys.length c5 (fun _ => True) (fun _ => False) ?aV ?aX ?aO ?aR ?aK (fun _ hk => hk.elim) (fun _ _ => trivial) ?aB ?aS ?aL ?_; (case aV => rfl); (case aX => rfl); (case aO => exact HR4.out); (case aR => exact HC5.out); (case aK => exact fun x cs h => h); (case aB => exact Below.refl _ _); (case aS => exact HS4.out); (case aL => exact HL5.out); intro v6 w6 hR6 hB6 hg6 hat6; have HR6 := Aside0.mk hR6; have HG6 := Aside0.mk hg6; clear hR6 hB6 hg6 hat6))) | fail)
      have hfin := HR6.out
      rw [HYS.out, ← List.map_append, told_step (show T ≤ E from hT1) HSO.out] at hfin
      have HO6 := Aside0.mk (HO4.out.step (Only.of_grown HG6.out) (fun b hb e => by have := Kd.R_base HR4.out b e.symm; omega))
      have HWB := Aside0.mk (show Whl w6 O2 p2 E (leftF E L) from by
        have h := HW4.out.only (Only.of_grown HG6.out) (fun b h1 _ e => by have := Kd.R_base HR4.out b e.symm; have := HOB.out b h1; omega)
        rwa [left_step hT1] at h)
      have HWA := Aside0.mk (HWa.out.only HO6.out (fun b h1 _ h2 => HOD.out b h1 h2))
      have hzl : ((toldF E L).map Prod.fst).length < 4611686018427387904 := by
        rw [List.length_map]
        have : (toldF E L).length ≤ L.length := List.length_filter_le _ _
        omega
      have HB6 := Aside0.mk (HO6.out.below_of HB3.out HB3.out.size (fun k hk h => by have := HO2.out k h; have := HB1.out.size; omega))
      have hr12 := R_over HR12.out HO6.out HO2l.out
      obtain ⟨zs, hzs⟩ : ∃ zs, zs = (toldF E L).map Prod.fst := ⟨_, rfl⟩
      rw [← hzs] at hr12 hfin hzl
      obtain ⟨A6, c6, rfl, hc6, hC6⟩ := Kd.R_reads hfin
      obtain ⟨A7, c7, rfl, hc7, hC7⟩ := Kd.R_reads hr12
      have HC := Aside0.mk (And.intro hC6 hC7)
      clear hfin hr12 hC6 hC7 hzs
      go_wp2_with fail
      refine (texts_calls A7 A6 c7 c6 zs _ HC.out.2 HC.out.1 hc7 hc6 hzl).mono ?_
      rintro e w7 ⟨rfl, n7, rfl⟩
      have HWA7 := Aside0.mk (HWA.out.drewN n7)
      have HWB7 := Aside0.mk (HWB.out.drewN n7)
      go_wp2_with fail
      refine (spread_calls HWA7.out).mono ?_
      rintro e w8 ⟨rfl, hB8⟩
      have HWB8 := Aside0.mk (HWB7.out.below hB8)
      have HWA8 := Aside0.mk (HWA7.out.below hB8)
      have HB8 := Aside0.mk hB8
      clear hB8 HWA7 HWB7
      go_wp2_with fail
      refine (spread_calls HWB8.out).mono ?_
      rintro e w9 ⟨rfl, hB9⟩
      have HWB9 := Aside0.mk (HWB8.out.below hB9)
      have HWA9 := Aside0.mk (HWA8.out.below hB9)
      have HB9 := Aside0.mk hB9
      clear hB9 HWA8 HWB8
      generalize spr E (leftF E L) = sf at *
      have hq7 := eq7_same sf
      unfold sprV at hq7 ⊢
      go_wp2_with fail
      refine (len_calls HWA9.out).mono ?_
      rintro e w10 ⟨rfl, rfl⟩
      go_wp2_with fail
      refine (len_calls HWB9.out).mono ?_
      rintro e w10 ⟨rfl, rfl⟩
      go_wp2_with fail
      refine (now_calls HWA9.out).mono ?_
      rintro e w10 ⟨rfl, rfl⟩
      go_wp2_with fail
      refine (now_calls HWB9.out).mono ?_
      rintro e w10 ⟨rfl, rfl⟩
      go_wp2_with fail
      go_ret
      exact ⟨rfl, ((pw_below_drewN HB6.out n7).trans (HB8.out.mono HB6.out.size)).trans (HB9.out.mono (Nat.le_trans HB6.out.size HB8.out.size))⟩
theorem bds (z : Int) (h : (Lit.int .i64 z).wf = true) : -9223372036854775808 ≤ z ∧ z ≤ 9223372036854775807 := bounds_i64 h
theorem many_row (x0 : Int) (A1 : Option Addr) (c1 : Nat) (far : List Int) (x2 : Int) (A3 : Option Addr) (c3 : Nat) (stops : List Int) (w : World) (h1 : Kd.C (Kd.int .i64) w A1 far.length far) (hc1 : far.length ≤ c1) (h3 : Kd.C (Kd.int .i64) w A3 stops.length stops) (hc3 : stops.length ≤ c3)
    (g0 : (Lit.int .i64 x0).wf = true) (g1 : (∀ z ∈ far, (Lit.int .i64 z).wf = true) ∧ far.length * 8 ≤ 140737488351232 ∧ far.length ≤ maxLen) (g2 : (Lit.int .i64 x2).wf = true) (g3 : (∀ z ∈ stops, (Lit.int .i64 z).wf = true) ∧ stops.length * 8 ≤ 140737488351232 ∧ stops.length ≤ maxLen) :
    Calls Try.prog 4 #[.int .i64 x0, .slice A1 far.length c1, .int .i64 x2, .slice A3 stops.length c3] w fun e w' => e = .returned (.bool true) ∧ Below w.heap.size w w' :=
  many_true x0 A1 c1 far x2 A3 c3 stops w h1 hc1 h3 hc3 (bds _ g0) (bds _ g2) (fun x hx => bds _ (g1.1 x hx)) (fun x hx => bds _ (g3.1 x hx)) (by have := g1.2.1; omega) (by have := g3.2.1; omega)
end Go.Proofs.Ytaefbibkkkglnaa.Wh
