/- WheelOnce: the contract of the law. No condition but the reach. -/
import Derived.Test.YtaefbibkkkglnaaWhOn
import Derived.Test.YtaefbibkkkglnaaWhKa
import Derived.OpenShut
namespace Go.Proofs.Ytaefbibkkkglnaa.Wh
open Go Go.RowKit Go.Proofs.YtaefbibkkkglnaaW.PrintWords Go.Proofs.Ytaefbibkkkglnaa.Mp Go.Proofs.Ytaefbibkkkglnaa.Fr
set_option linter.unusedVariables false
set_option linter.unusedSimpArgs false
set_option maxRecDepth 100000 in
set_option maxHeartbeats 4000000 in
theorem once_true (x0 : Int) (A1 : Option Addr) (c1 : Nat) (far : List Int) (A2 : Option Addr) (c2 : Nat) (stops : List Int) (w : World) (h1 : Kd.C (Kd.int .i64) w A1 far.length far) (hc1 : far.length ≤ c1) (h2 : Kd.C (Kd.int .i64) w A2 stops.length stops) (hc2 : stops.length ≤ c2)
    (hx0 : -9223372036854775808 ≤ x0 ∧ x0 ≤ 9223372036854775807) (hf : ∀ x ∈ far, -9223372036854775808 ≤ x ∧ x ≤ 9223372036854775807) (hs : ∀ x ∈ stops, -9223372036854775808 ≤ x ∧ x ≤ 9223372036854775807) (hcc : far.length ≤ 4611686018427387904) (hsl : stops.length ≤ 4611686018427387904) :
    Calls Try.prog 3 #[.int .i64 x0, .slice A1 far.length c1, .slice A2 stops.length c2] w fun e w' => e = .returned (.bool true) ∧ Below w.heap.size w w' := by
  have hb0 := winF_bd (lo := 0) (hi := 549755813887) hx0.1 hx0.2 (by omega)
  have hfl : (far.take 400).length = min far.length 400 := by rw [List.length_take]; omega
  have h1' := Kd.C_take (m := min far.length 400) h1 (by omega)
  rw [show far.take (min far.length 400) = far.take 400 from by rw [List.take_eq_take_iff]; omega] at h1'
  have hf' : ∀ x ∈ far.take 400, -9223372036854775808 ≤ x ∧ x ≤ 9223372036854775807 := fun x hx => hf x (List.mem_of_mem_take hx)
  have HF := Aside0.mk (show ∀ w, Calls Try.prog 11 #[.slice A1 far.length c1] w fun e w' => e = .returned (.slice A1 (far.take 400).length c1) ∧ w = w' from fun w => by rw [hfl]; exact few_calls A1 far.length c1 w hc1 hcc)
  generalize hfs : far.take 400 = fs at *
  have hfs4 : fs.length ≤ 400 := by omega
  have hfsc : fs.length ≤ c1 := by omega
  have H1 := Aside0.mk h1'
  have HN := Aside0.mk (show ∀ w, Calls Try.prog 10 #[.int .i64 x0, .int .i64 0, .int .i64 549755813887] w fun e w' => e = .returned (.int .i64 (winF x0 0 549755813887)) ∧ w = w' from fun w => within_calls x0 0 549755813887 w hx0.1 hx0.2 (by omega) (by omega) (by omega))
  generalize winF x0 0 549755813887 = now at *
  obtain ⟨n0, n1⟩ := hb0
  have HFS := Aside0.mk hf'
  have H2 := Aside0.mk h2
  have HS := Aside0.mk hs
  clear h1 h1' hf hf' hfs hfl hc1 hx0 hcc hs h2
  have ew1 : IntKind.i64.wrap (now + 1) = now + 1 := IntWalk.i64_in _ (by omega)
  go_enter Try.func3, Try.ntmps3
  go_wp2_with fail
  refine (HN.out _).mono ?_
  rintro e w' ⟨rfl, rfl⟩
  go_wp2_with fail
  refine (HF.out _).mono ?_
  rintro e w' ⟨rfl, rfl⟩
  go_wp2_with fail
  refine (filled_calls now A1 c1 fs w n0 (by omega) HFS.out H1.out hfs4 hfsc).mono ?_
  rintro e w1 ⟨p1, O1, rfl, hW1, hO1, hB1⟩
  have HL1 := Aside0.mk (fillL_len now fs fs.length)
  have HLP := Aside0.mk (fillL_perm now fs fs.length)
  have HLT := Aside0.mk (fillL_late (now := now) (k := fs.length) (Nat.le_refl _) HFS.out)
  generalize fillL now fs fs.length = L at *
  have HND := Aside0.mk hW1.nodup
  have HSO := Aside0.mk hW1.sorted
  have HW1 := Aside0.mk hW1
  have HO1 := Aside0.mk hO1
  have HOL := Aside0.mk hW1.lt
  have HB1 := Aside0.mk hB1
  clear hW1 hO1 hB1
  go_wp2_with fail
  refine (len_calls HW1.out).mono ?_
  rintro e w' ⟨rfl, rfl⟩
  rw [HL1.out]
  go_wp2_with fail
  have HTB := Aside0.mk (tab_new (now := now) (fs := fs) w1 (fun x hx => (HLT.out _ (HLP.out.mem_iff.2 (List.mem_map.2 ⟨x, List.mem_range.2 hx, rfl⟩))).1))
  have HWB := Aside0.mk (HW1.out.below (below_alloc (Below.refl _ _) (.cells Try.zeroCells28 28 (0, 0))))
  have HBB := Aside0.mk (below_alloc HB1.out (.cells Try.zeroCells28 28 (0, 0)))
  have HLL := Aside0.mk (left_all (t := now) (fun e he => (HLT.out e he).1))
  have hz1 : w.heap.size ≤ w1.heap.size := HB1.out.size
  generalize hg : w1.heap.size = g0 at *
  go_loopg [9, 10, 11, 12, 13, 14, 15, 16, 17, 18, 19] (stops.length + 1) (fun g v9 v10 v11 v12 v13 v14 v15 v16 v17 v18 v19 wx => ∃ (i : Nat) (T : Int), g = stops.length + 1 - i ∧ i ≤ stops.length ∧ v10 = .int .i64 i ∧ v9 = .int .i64 T ∧ now ≤ T ∧ T ≤ 1099511627776 ∧ Aside0 (Whl wx O1 p1 T (leftF T L)) ∧ Aside0 (Tab wx g0 (seen now fs T [])) ∧ Aside0 (Below w.heap.size w wx))
  case atStart => exact ⟨0, now, rfl, by omega, rfl, rfl, by omega, by omega, ⟨by rw [HLL.out]; exact HWB.out⟩, HTB, HBB⟩
  case round =>
    clear HTB HWB HBB HLL
    obtain ⟨i, T, rfl, hi, rfl, rfl, hT0, hT1, HW, HTB, HBX⟩ := hrel
    by_cases h3 : i < 300
    · have d0 : (i : Int) ≤ (stops.length : Int) := by omega
      have d1 : (i : Int) < 300 := by omega
      obtain ⟨wo, hwo⟩ : ∃ wo : World, wr = wo := ⟨_, rfl⟩
      subst hwo
      go_upto_if 51 with fail
      go_cut [9] (fun s9 wx => wr = wx ∧ ∃ T1 : Int, s9 = .int .i64 T1 ∧ T ≤ T1 ∧ T1 ≤ 1108101562368)
      case first =>
        by_cases h : i < stops.length
        · obtain ⟨ad, rfl, cc⟩ := at_I (Kd.C_below H2.out HBX.out) i h
          obtain ⟨q0, q1⟩ := HS.out _ (List.getElem_mem h)
          generalize stops[i] = x at *
          have hbw := winF_bd (lo := 0) (hi := 8589934592) q0 q1 (by omega)
          have HWI := Aside0.mk (show ∀ w, Calls Try.prog 10 #[.int .i64 x, .int .i64 0, .int .i64 8589934592] w fun e w' => e = .returned (.int .i64 (winF x 0 8589934592)) ∧ w = w' from fun w => within_calls x 0 8589934592 w q0 q1 (by omega) (by omega) (by omega))
          generalize winF x 0 8589934592 = d at *
          have e2 : IntKind.i64.wrap (T + d) = T + d := IntWalk.i64_in _ (by omega)
          have i0 : (0 : Int) ≤ (i : Int) := by omega
          have i1 : (i : Int) < (stops.length : Int) := by omega
          go_wp2_with fail
          refine (HWI.out _).mono ?_
          rintro e w' ⟨rfl, rfl⟩
          go_wp2_with fail
          go_meet
          exact ⟨rfl, _, rfl, by omega, by omega⟩
        · have i1 : decide ((i : Int) < (stops.length : Int)) = false := by simp; omega
          go_wp2_with fail
          go_meet
          exact ⟨rfl, _, rfl, by omega, by omega⟩
      case rest =>
        obtain ⟨rfl, T1, rfl, hT2, hT3⟩ := hcut
        obtain ⟨wo, hwo⟩ : ∃ wo : World, wr = wo := ⟨_, rfl⟩
        subst hwo
        go_upto_region 14 with fail
        go_cut [66] (fun s66 wx => wr = wx ∧ ∃ b : Bool, s66 = .bool b ∧ Aside0 (b = true ↔ (1099511627776 < T1 ∨ i = stops.length)))
        case first =>
          by_cases hg1 : 1099511627776 < T1
          · have e1 : decide (1099511627776 < T1) = true := by simpa using hg1
            go_wp2_with fail
            go_meet
            exact ⟨rfl, _, rfl, ⟨by simp [hg1]⟩⟩
          · have e1 : decide (1099511627776 < T1) = false := by simpa using hg1
            by_cases h : i < stops.length
            · have e2 : ((i : Int) == (stops.length : Int)) = false := by rw [beq_eq_false_iff_ne]; omega
              go_wp2_with fail
              go_meet
              exact ⟨rfl, _, rfl, ⟨by simp [hg1]; omega⟩⟩
            · have e2 : ((i : Int) == (stops.length : Int)) = true := by rw [beq_iff_eq]; omega
              go_wp2_with fail
              go_meet
              exact ⟨rfl, _, rfl, ⟨by simp; omega⟩⟩
        case rest =>
        obtain ⟨rfl, b, rfl, HBB⟩ := hcut
        obtain ⟨wo, hwo⟩ : ∃ wo : World, wr = wo := ⟨_, rfl⟩
        subst hwo
        go_upto_if 66 with fail
        go_cut [9] (fun s9 wx => wr = wx ∧ ∃ T2 : Int, s9 = .int .i64 T2 ∧ T ≤ T2 ∧ T2 ≤ 1099511627776 ∧ Aside0 (i = stops.length → T2 = 1099511627776))
        case first =>
          cases b with
          | true =>
            go_wp2_with fail
            go_meet
            exact ⟨rfl, _, rfl, by omega, by omega, ⟨fun _ => rfl⟩⟩
          | false =>
            have hbb : ¬ (1099511627776 < T1 ∨ i = stops.length) := fun q => by have := HBB.out.2 q; cases this
            have hb1 : T1 ≤ 1099511627776 := by omega
            have hb2 : i ≠ stops.length := by omega
            have HB2 := Aside0.mk hb2
            clear hbb hb2
            go_wp2_with fail
            go_meet
            exact ⟨rfl, _, rfl, by omega, by omega, ⟨fun q => absurd q HB2.out⟩⟩
        case rest =>
          obtain ⟨rfl, T2, rfl, hT4, hT5, HTL⟩ := hcut
          obtain ⟨lT, lN, hSt⟩ := steps_ok (was := T) (T := T2) HSO.out HND.out HLP.out hfs4 hT4 n0 hT0
          have hlf : leftF T2 (leftF T L) = leftF T2 L := left_step hT4 L
          go_wp2_with fail
          refine (advance_calls HW.out T2 (by omega) (by omega) (by omega)).mono ?_
          rintro e w5 ⟨v12, rfl, hR5, hW5, hO5⟩
          rw [hlf] at hW5
          obtain ⟨ids, hids⟩ : ∃ ids, ids = (toldF T2 (leftF T L)).map Prod.fst := ⟨_, rfl⟩
          rw [← hids] at hR5 hSt
          obtain ⟨A5, c5, rfl, hc5, hC5⟩ := Kd.R_reads hR5
          have HR5 := Aside0.mk hR5
          have HC5 := Aside0.mk hC5
          have HW5 := Aside0.mk hW5
          have HO5 := Aside0.mk hO5
          have HSt := Aside0.mk hSt
          have hgl : g0 < wr.heap.size := HTB.out.lt
          have HT5 := Aside0.mk (HTB.out.move (hO5.block g0 hgl (fun h => by have := HOL.out _ h; omega)))
          have HB5 := Aside0.mk (hO5.below_of HBX.out HBX.out.size (fun k hk h => by have := HO1.out k h; omega))
          have HSZ := Aside0.mk hgl
          have hfew := hSt.few
          have z1 := hSt.z1
          have z2 := hSt.z2
          clear hR5 hC5 hW5 hO5 hSt hids hlf HW HTB hgl
          go_wp2_with fail
          go_loopg [14, 15, 16, 17, 18, 19] ids.length (fun g v14 v15 v16 v17 v18 v19 wx => ∃ (j : Nat), g = ids.length - j ∧ j ≤ ids.length ∧ v16 = .int .i64 j ∧ v14 = .int .i64 (lT j) ∧ v15 = .string (lN j) ∧ Aside0 (Tab wx g0 (seen now fs T (ids.take j))) ∧ Aside0 (Only (fun b => b = g0) w5 wx))
          case atStart => exact ⟨0, rfl, by omega, rfl, by rw [z1], by rw [z2], HT5, ⟨Only.refl _ _⟩⟩
          case round =>
            clear HT5 z1 z2
            obtain ⟨j, rfl, hj, rfl, rfl, rfl, HT6, HO6⟩ := hrel
            by_cases hjl : j < ids.length
            · obtain ⟨k, hk, ek, k1, k2, k3, k4, k5, k6, k7, k8⟩ := HSt.out.step j hjl
              obtain ⟨ad, rfl, cc⟩ := at_S HC5.out j hjl
              have hab : ad.block ≠ g0 := fun q => by have h1 := Kd.R_base HR5.out ad.block rfl; have h2 := HSZ.out; omega
              have c6 : wr.cell? (ad.add j) = some (.string (nm k)) := (HO6.out.cell cc (by rw [add_blk]; exact hab)).trans (by rw [ek])
              obtain ⟨t1, t2⟩ := HT6.out.get (x := k) (by omega)
              rw [k3] at t1
              have HK4 := Aside0.mk k4
              have HK6 := Aside0.mk k6
              have HK7 := Aside0.mk (And.intro k7 k8)
              obtain ⟨ae, rfl, cf⟩ := at_I H1.out k hk
              have hae : ae.block < w.heap.size := add_blk ae k ▸ World.block_lt_of_cell? _ _ cf
              have HCC := Aside0.mk (show ∀ q, ((wr.drewN q).setCell ⟨g0, k, none⟩ (.bool true)).cell? (ae.add k) = some (.int .i64 fs[k]) ∧ ((wr.drewN q).setCell ⟨g0, k, none⟩ (.bool true)).cell? (ad.add j) = some (.string (nm k)) ∧ Only (fun b => b = g0) w5 ((wr.drewN q).setCell ⟨g0, k, none⟩ (.bool true)) from fun q => by
                have o1 : Only (fun b => b = g0) w5 ((wr.drewN q).setCell ⟨g0, k, none⟩ (.bool true)) := (HO6.out.drewN q).set (fun _ => rfl) _
                refine ⟨?_, (o1.cell cc (by rw [add_blk]; exact hab)).trans (by rw [ek]), o1⟩
                have b1 := o1.below_of HB5.out HB5.out.size (fun b hb hq => by omega)
                exact pw_cell_below b1 cf)
              obtain ⟨q0, q1⟩ := HFS.out _ (List.getElem_mem hk)
              obtain ⟨e1, e2⟩ := i64_far n0 n1 HFS.out hk
              have HWI := Aside0.mk (show ∀ w, Calls Try.prog 10 #[.int .i64 fs[k], .int .i64 0, .int .i64 549755813888] w fun e w' => e = .returned (.int .i64 (winF fs[k] 0 549755813888)) ∧ w = w' from fun w => within_calls fs[k] 0 549755813888 w q0 q1 (by omega) (by omega) (by omega))
              generalize winF fs[k] 0 549755813888 = wk at *
              generalize fs[k] = fk at *
              generalize farT now fs k = tk at *
              have HTT := Aside0.mk (show ∀ q, Tab ((wr.drewN q).setCell ⟨g0, k, none⟩ (.bool true)) g0 (seen now fs T (ids.take (j + 1))) from fun q => (HT6.out.move (w' := wr.drewN q) rfl).put (by omega) HK4.out)
              clear ek cc k3 k4 k6 k7 k8 hab cf hae HT6 HO6 HK4 q0 q1
              have HNM := Aside0.mk (show ∀ m : Nat, m < fs.length → ∀ w, Calls Try.prog 15 #[.int .i64 m] w fun e w' => e = .returned (.string (nm m)) ∧ ∃ q, w' = w.drewN q from fun m hm w => name_calls m w (by omega))
              obtain ⟨wo, hwo⟩ : ∃ wo : World, wr = wo := ⟨_, rfl⟩
              subst hwo
              have j0 : (0 : Int) ≤ (j : Int) := by omega
              have j1 : (j : Int) < (ids.length : Int) := by omega
              go_wp2_with fail
              go_loopg [17, 18] fs.length (fun g v17 v18 wx => ∃ (m : Nat) (kv : Int), g = fs.length - m ∧ m ≤ fs.length ∧ v18 = .int .i64 m ∧ v17 = .int .i64 kv ∧ Aside0 (kv = if m ≤ k then -1 else (k : Int)) ∧ Aside0 (∃ q, wx = wr.drewN q))
              case atStart => exact ⟨0, -1, rfl, by omega, rfl, rfl, ⟨by rw [if_pos (by omega)]⟩, ⟨0, rfl⟩⟩
              case round =>
                obtain ⟨m, kv, rfl, hm, rfl, rfl, HKV, HQ⟩ := hrel
                by_cases hml : m < fs.length
                · have m1 : (m : Int) < (fs.length : Int) := by omega
                  have cm : wr.cell? (ad.add j) = some (.string (nm k)) := by obtain ⟨q, hq⟩ := HQ.out; rw [hq]; exact c6
                  have hne := nm_eq (m := m) (k := k) (by omega) (by omega)
                  have HNX := Aside0.mk (HNM.out m hml)
                  clear c6 t1 t2
                  by_cases hmk : m = k
                  · have hq1 : ((nm m).toList == (nm k).toList) = true := by rw [hne]; simp [hmk]
                    have HMK := Aside0.mk hmk
                    clear hne hmk
                    generalize nm m = sm at *
                    generalize nm k = sk at *
                    go_wp2_with fail
                    go_region_held3 (fun w' => w'.cell? (ad.add j) = some (.string sk)) (go_keep) (first
                      | (go_at_call 15; refine (HNX.out _).mono ?_; rintro e w2 ⟨rfl, n1, rfl⟩))
                    go_wp2_with fail
                    go_roundg (fs.length - (m + 1))
                    case measure => omega
                    case rel => exact ⟨m + 1, m, rfl, by omega, by go_num, rfl, ⟨by rw [if_neg (by have := HMK.out; omega), HMK.out]⟩, ⟨dr_ex (by repeat (first | exact HQ.out | apply dr_step | apply dr_stepN))⟩⟩
                  · have hq1 : ((nm m).toList == (nm k).toList) = false := by rw [hne]; simp [hmk]
                    have HMK := Aside0.mk hmk
                    clear hne hmk
                    generalize nm m = sm at *
                    generalize nm k = sk at *
                    go_wp2_with fail
                    go_region_held3 (fun w' => w'.cell? (ad.add j) = some (.string sk)) (go_keep) (first
                      | (go_at_call 15; refine (HNX.out _).mono ?_; rintro e w2 ⟨rfl, n1, rfl⟩))
                    go_wp2_with fail
                    go_roundg (fs.length - (m + 1))
                    case measure => omega
                    case rel =>
                      refine ⟨m + 1, kv, rfl, by omega, by go_num, rfl, ⟨?_⟩, ⟨dr_ex (by repeat (first | exact HQ.out | apply dr_step | apply dr_stepN))⟩⟩
                      rw [HKV.out]
                      have := HMK.out
                      split <;> split <;> omega
                · obtain rfl : m = fs.length := by omega
                  obtain rfl : kv = (k : Int) := by rw [HKV.out, if_neg (by omega)]
                  obtain ⟨q, rfl⟩ := HQ.out
                  have u1 : (wr.drewN q).cell? ⟨g0, k, none⟩ = some (.bool false) := t1
                  have u2 : (wr.drewN q).frozen? ⟨g0, k, none⟩ = false := t2
                  obtain ⟨cf, cs, -⟩ := HCC.out q
                  have b0 : (0 : Int) ≤ (k : Int) := by omega
                  have b1 : (k : Int) < 400 := by omega
                  have b2 : (k : Int) < (fs.length : Int) := by omega
                  have b3 : decide ((k : Int) < 0) = false := by simp
                  clear t1 t2 c6
                  go_wp2_with fail
                  refine (HWI.out _).mono ?_
                  rintro e w' ⟨rfl, rfl⟩
                  have f1 : decide (T2 < tk) = false := by simp; omega
                  have f2 : decide (tk ≤ T) = false := by simp; omega
                  have f3 : decide (tk < lT j) = false := by simp; omega
                  have fin : Tab ((wr.drewN q).setCell ⟨g0, k, none⟩ (.bool true)) g0 (seen now fs T (ids.take (j + 1))) ∧ Only (fun b => b = g0) w5 ((wr.drewN q).setCell ⟨g0, k, none⟩ (.bool true)) := ⟨HTT.out q, (HCC.out q).2.2⟩
                  have FIN := Aside0.mk fin
                  clear fin
                  generalize hsk : nm k = sk at *
                  generalize hlt : lT j = tl at *
                  generalize hln : lN j = sl at *
                  clear hsk hlt hln
                  by_cases hte : tk = tl
                  · have f4 : (tk == tl) = true := by simp [hte]
                    have hbl := HK6.out hte.symm
                    have f5 : (!(Op.bytesLess sl.toList sk.toList)) = false := by rw [hbl]; rfl
                    clear hte hbl
                    go_wp2_with fail
                    go_roundg (ids.length - (j + 1))
                    case measure => omega
                    case rel => exact ⟨j + 1, rfl, by omega, by go_num, by rw [HK7.out.1], by rw [HK7.out.2], ⟨FIN.out.1⟩, ⟨FIN.out.2⟩⟩
                  · have f4 : (tk == tl) = false := by simp [hte]
                    clear hte
                    go_wp2_with fail
                    go_roundg (ids.length - (j + 1))
                    case measure => omega
                    case rel => exact ⟨j + 1, rfl, by omega, by go_num, by rw [HK7.out.1], by rw [HK7.out.2], ⟨FIN.out.1⟩, ⟨FIN.out.2⟩⟩
            · obtain rfl : j = ids.length := by omega
              have HW6 := Aside0.mk (HW5.out.only HO6.out (fun b h1 _ h2 => by have := HOL.out b h1; omega))
              have HB6 := Aside0.mk (HO6.out.below_of HB5.out HB5.out.size (fun b hb hq => by omega))
              have HT7 := Aside0.mk (show Tab wr g0 (seen now fs T2 []) from HT6.out.same (fun x hx => by rw [List.take_length]; exact HSt.out.new x hx))
              by_cases h : i < stops.length
              · have e2 : ((i : Int) == (stops.length : Int)) = false := by rw [beq_eq_false_iff_ne]; omega
                go_wp2_with fail
                go_roundg (stops.length + 1 - (i + 1))
                case measure => omega
                case rel => exact ⟨i + 1, T2, rfl, by omega, by go_num, rfl, by omega, by omega, HW6, HT7, HB6⟩
              · have e2 : ((i : Int) == (stops.length : Int)) = true := by rw [beq_iff_eq]; omega
                have hlz : leftF T2 L = [] := by
                  have hT := HTL.out (by omega)
                  unfold leftF
                  rw [List.filter_eq_nil_iff]
                  intro e he
                  have := (HLT.out e he).2
                  simp
                  omega
                have HLE := Aside0.mk (len_calls HW6.out)
                rw [hlz] at HLE
                have f1 : (ids.length : Int) ≤ (fs.length : Int) := by omega
                clear hlz
                go_wp2_with fail
                refine (HLE.out).mono ?_
                rintro e w' ⟨rfl, rfl⟩
                go_wp2_with fail
                go_ret
                exact ⟨rfl, HB6.out⟩
    · have d1 : decide ((i : Int) < 300) = false := by simp; omega
      have d0 : (i : Int) ≤ (stops.length : Int) := by omega
      go_wp2_with fail
      go_ret
      exact ⟨rfl, HBX.out⟩
theorem once_row (x0 : Int) (A1 : Option Addr) (c1 : Nat) (far : List Int) (A2 : Option Addr) (c2 : Nat) (stops : List Int) (w : World) (h1 : Kd.C (Kd.int .i64) w A1 far.length far) (hc1 : far.length ≤ c1) (h2 : Kd.C (Kd.int .i64) w A2 stops.length stops) (hc2 : stops.length ≤ c2)
    (g0 : (Lit.int .i64 x0).wf = true) (g1 : (∀ z ∈ far, (Lit.int .i64 z).wf = true) ∧ far.length * 8 ≤ 140737488351232 ∧ far.length ≤ maxLen) (g2 : (∀ z ∈ stops, (Lit.int .i64 z).wf = true) ∧ stops.length * 8 ≤ 140737488351232 ∧ stops.length ≤ maxLen) :
    Calls Try.prog 3 #[.int .i64 x0, .slice A1 far.length c1, .slice A2 stops.length c2] w fun e w' => e = .returned (.bool true) ∧ Below w.heap.size w w' :=
  once_true x0 A1 c1 far A2 c2 stops w h1 hc1 h2 hc2 (bounds_i64 g0) (fun x hx => bounds_i64 (g1.1 x hx)) (fun x hx => bounds_i64 (g2.1 x hx)) (by have := g1.2.1; omega) (by have := g2.2.1; omega)
end Go.Proofs.Ytaefbibkkkglnaa.Wh
