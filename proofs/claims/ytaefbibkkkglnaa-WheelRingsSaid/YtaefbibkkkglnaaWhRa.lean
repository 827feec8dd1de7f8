/- WheelRings: the contract of the law. No condition but the reach. -/
import Derived.Test.YtaefbibkkkglnaaWhRp
import Derived.Test.YtaefbibkkkglnaaWhEd
import Derived.Test.YtaefbibkkkglnaaWhKa
import Derived.OpenShut
namespace Go.Proofs.Ytaefbibkkkglnaa.Wh
open Go Go.RowKit Go.Proofs.YtaefbibkkkglnaaW.PrintWords Go.Proofs.Ytaefbibkkkglnaa.Mp Go.Proofs.Ytaefbibkkkglnaa.Fr
set_option linter.unusedVariables false
set_option linter.unusedSimpArgs false
set_option maxRecDepth 100000 in
set_option maxHeartbeats 4000000 in
theorem rings_true (x0 : Int) (A1 : Option Addr) (c1 : Nat) (far : List Int) (A2 : Option Addr) (c2 : Nat) (stops : List Int) (w : World) (h1 : Kd.C (Kd.int .i64) w A1 far.length far) (hc1 : far.length ≤ c1) (h2 : Kd.C (Kd.int .i64) w A2 stops.length stops) (hc2 : stops.length ≤ c2)
    (hx0 : -9223372036854775808 ≤ x0 ∧ x0 ≤ 9223372036854775807) (hf : ∀ x ∈ far, -9223372036854775808 ≤ x ∧ x ≤ 9223372036854775807) (hs : ∀ x ∈ stops, -9223372036854775808 ≤ x ∧ x ≤ 9223372036854775807) (hcc : far.length ≤ 4611686018427387904) (hsl : stops.length ≤ 4611686018427387904) :
    Calls Try.prog 7 #[.int .i64 x0, .slice A1 far.length c1, .slice A2 stops.length c2] w fun e w' => e = .returned (.bool true) ∧ Below w.heap.size w w' := by
  have hb0 := winF_bd (lo := 0) (hi := 549755813887) hx0.1 hx0.2 (by omega)
  have hfl : (far.take 400).length = min far.length 400 := by rw [List.length_take]; omega
  have h1' := Kd.C_take (m := min far.length 400) h1 (by omega)
  rw [show far.take (min far.length 400) = far.take 400 from by rw [List.take_eq_take_iff]; omega] at h1'
  have hf' : ∀ x ∈ far.take 400, -9223372036854775808 ≤ x ∧ x ≤ 9223372036854775807 := fun x hx => hf x (List.mem_of_mem_take hx)
  have HF := Aside0.mk (show ∀ w, Calls Try.prog 11 #[.slice A1 far.length c1] w fun e w' => e = .returned (.slice A1 (far.take 400).length c1) ∧ w = w' from fun w => by rw [hfl]; exact few_calls A1 far.length c1 w hc1 hcc)
  generalize hfs : far.take 400 = fs at *
  have hfs4 : fs.length ≤ 400 := by omega
  have hfsc : fs.length ≤ c1 := by omega
  have H1 := Aside0.mk h1'
  have HN := Aside0.mk (show ∀ w, Calls Try.prog 10 #[.int .i64 x0, .int .i64 0, .int .i64 549755813887] w fun e w' => e = .returned (.int .i64 (winF x0 0 549755813887)) ∧ w = w' from fun w => within_calls x0 0 549755813887 w hx0.1 hx0.2 (by omega) (by omega) (by omega))
  generalize winF x0 0 549755813887 = now at *
  obtain ⟨n0, n1⟩ := hb0
  have HFS := Aside0.mk hf'
  have H2 := Aside0.mk h2
  have HS := Aside0.mk hs
  clear h1 h1' hf hf' hfs hfl hc1 hx0 hcc hs h2
  have ew1 : IntKind.i64.wrap (now + 1) = now + 1 := IntWalk.i64_in _ (by omega)
  go_enter Try.func7, Try.ntmps7
  go_wp2_with fail
  refine (HN.out _).mono ?_
  rintro e w' ⟨rfl, rfl⟩
  go_wp2_with fail
  refine (HF.out _).mono ?_
  rintro e w' ⟨rfl, rfl⟩
  go_wp2_with fail
  refine (filled_calls now A1 c1 fs w n0 (by omega) HFS.out H1.out hfs4 hfsc).mono ?_
  rintro e w1 ⟨p1, O1, rfl, hW1, hO1, hB1⟩
  have HL1 := Aside0.mk (fillL_len now fs fs.length)
  have HLT := Aside0.mk (fillL_late (now := now) (k := fs.length) (Nat.le_refl _) HFS.out)
  generalize fillL now fs fs.length = L at *
  have HW1 := Aside0.mk hW1
  have HO1 := Aside0.mk hO1
  have HOL := Aside0.mk hW1.lt
  have HB1 := Aside0.mk hB1
  have hll : L.length ≤ 400 := by rw [HL1.out]; exact hfs4
  clear hW1 hO1 hB1
  go_upto_block 0 with fail
  go_cut [9] (fun s9 wx => ∃ wy : World, wy = wx ∧ Aside0 (Below w.heap.size w wx))
  case first =>
    go_wp2_with fail
    go_loopg [8, 9, 10, 11, 12, 13, 14, 15, 16, 17, 18, 19, 20, 21] stops.length (fun g v8 v9 v10 v11 v12 v13 v14 v15 v16 v17 v18 v19 v20 v21 wx => ∃ (i : Nat) (T : Int), g = stops.length - i ∧ i ≤ stops.length ∧ v9 = .int .i64 i ∧ v8 = .int .i64 T ∧ now ≤ T ∧ T ≤ 1099511627776 ∧ Aside0 (Whl wx O1 p1 T (leftF T L)) ∧ Aside0 (Below w.heap.size w wx) ∧ Aside0 (w1.heap.size ≤ wx.heap.size))
    case atStart =>
      refine ⟨0, now, rfl, by omega, rfl, rfl, by omega, by omega, ⟨?_⟩, HB1, ⟨Nat.le_refl _⟩⟩
      rw [left_all (t := now) (fun e he => (HLT.out e he).1)]
      exact HW1.out
    case round =>
      clear HW1
      obtain ⟨i, T, rfl, hi, rfl, rfl, hT0, hT1, HW, HBX, HZX⟩ := hrel
      rcases Nat.lt_or_ge i stops.length with h | h
      · rcases Nat.lt_or_ge i 100 with h' | h'
        · have d0 : (i : Int) < (stops.length : Int) := by omega
          have d1 : (i : Int) < 100 := by omega
          have hLt := left_late (t := T) (l := L) (fun e he => by have := (HLT.out e he).2; omega)
          have hsum := lowC_all (now := T) (l := leftF T L) (by omega) hLt
          have hup := upC_seven (now := T) (l := leftF T L) (by omega) hLt
          have hkl : (leftF T L).length ≤ 400 := Nat.le_trans (List.length_filter_le _ _) hll
          obtain ⟨K, hK⟩ : ∃ K, K = leftF T L := ⟨_, rfl⟩
          rw [← hK] at HW hLt hsum hup hkl
          have HK := Aside0.mk hK
          have HLt := Aside0.mk hLt
          have HSUM := Aside0.mk hsum
          have HUP := Aside0.mk hup
          clear hK hLt hsum hup
          go_wp2_with fail
          refine (spread_calls HW.out).mono ?_
          rintro e w2 ⟨rfl, hB2⟩
          obtain ⟨sf, hsf⟩ : ∃ sf, sf = spr T K := ⟨_, rfl⟩
          rw [← hsf]
          have HSF := Aside0.mk hsf
          clear hsf
          unfold sprV
          have HW2 := Aside0.mk (HW.out.below hB2)
          have HB2 := Aside0.mk (HBX.out.trans (hB2.mono HBX.out.size))
          have HZ2 := Aside0.mk (Nat.le_trans HZX.out hB2.size)
          clear hB2 HW HBX HZX
          go_wp2_with fail
          have HA3 := Aside0.mk (show Arr7 (w2.alloc (.cells #[.int .i64 (sf 0), .int .i64 (sf 1), .int .i64 (sf 2), .int .i64 (sf 3), .int .i64 (sf 4), .int .i64 (sf 5), .int .i64 (sf 6)] 36 (0, 0))) w2.heap.size sf from heap_alloc_new _ _)
          have HW3 := Aside0.mk (HW2.out.below (below_alloc (Below.refl _ _) (.cells #[.int .i64 (sf 0), .int .i64 (sf 1), .int .i64 (sf 2), .int .i64 (sf 3), .int .i64 (sf 4), .int .i64 (sf 5), .int .i64 (sf 6)] 36 (0, 0))))
          have HB3 := Aside0.mk (below_alloc HB2.out (.cells #[.int .i64 (sf 0), .int .i64 (sf 1), .int .i64 (sf 2), .int .i64 (sf 3), .int .i64 (sf 4), .int .i64 (sf 5), .int .i64 (sf 6)] 36 (0, 0)))
          generalize (w2.alloc (.cells #[.int .i64 (sf 0), .int .i64 (sf 1), .int .i64 (sf 2), .int .i64 (sf 3), .int .i64 (sf 4), .int .i64 (sf 5), .int .i64 (sf 6)] 36 (0, 0))) = w3 at *
          generalize w2.heap.size = ga at *
          have hz2 := HZ2.out
          refine (next_calls HW3.out).mono ?_
          rintro e w' ⟨rfl, rfl⟩
          go_wp2_with fail
          refine (walked_calls HW3.out 1 (by omega)).mono ?_
          rintro e w4 ⟨v13, rfl, hR4, hB4⟩
          obtain ⟨A13, c13, rfl, hc13, hC13⟩ := Kd.R_reads hR4
          have HC13 := Aside0.mk hC13
          have HA4 := Aside0.mk (HA3.out.move (hB4.block _ HA3.out.lt))
          have HW4 := Aside0.mk (HW3.out.below hB4)
          have HB4 := Aside0.mk (HB3.out.trans (hB4.mono HB3.out.size))
          have hga4 : ga < w4.heap.size := HA4.out.lt
          have HLEN := Aside0.mk (len_calls HW4.out)
          clear hR4 hB4 hC13 HA3 HB3 HW3 HB2 HW2 HZ2
          go_wp2_with fail
          go_loopg [14, 15] 7 (fun g v14 v15 wx => ∃ k : Nat, g = 7 - k ∧ k ≤ 7 ∧ v15 = .int .i64 k ∧ v14 = .int .i64 (lowC T K k) ∧ w4 = wx)
          case atStart => exact ⟨0, rfl, by omega, rfl, by rw [lowC_zero]; rfl, rfl⟩
          case round =>
            obtain ⟨k, rfl, hk, rfl, rfl, rfl⟩ := hrel
            by_cases hk7 : k < 7
            · have hck := HA4.out.get (k := k) hk7
              have b0 : (0 : Int) ≤ (k : Int) := by omega
              have b1 : (k : Int) < 7 := by omega
              have hst := lowC_succ T k K
              have hsfk : sf k = spr T K k := by rw [HSF.out]
              have hlk : lowC T K k ≤ K.length := List.length_filter_le _ _
              have hlk1 : lowC T K (k + 1) ≤ K.length := List.length_filter_le _ _
              rw [← hsfk] at hst
              generalize lowC T K k = lo at *
              generalize hl2 : lowC T K (k + 1) = lo2 at *
              generalize sf k = sk at *
              have e1 : IntKind.i64.wrap ((lo : Int) + (sk : Int)) = (lo2 : Int) := by rw [IntWalk.i64_in _ (by omega)]; omega
              have HE1 := Aside0.mk hl2
              clear hst hsfk hl2
              go_wp2_with fail
              go_roundg (7 - (k + 1))
              case measure => omega
              case rel => exact ⟨k + 1, rfl, by omega, by go_num, by rw [HE1.out], rfl⟩
            · obtain rfl : k = 7 := by omega
              rw [HSUM.out]
              go_upto_region 18 with fail
              go_cut [11, 12, 13, 99] (fun s11 s12 s13 s99 wx => w4 = wx ∧ s99 = .bool false)
              case first =>
                cases K with
                | nil =>
                  simp only [List.length_nil] at HLEN ⊢
                  have hz : walkF 1 ([] : List E) = [] := rfl
                  rw [hz]
                  simp only [List.length_nil]
                  go_wp2_with fail
                  refine (HLEN.out).mono ?_
                  rintro e w' ⟨rfl, rfl⟩
                  go_wp2_with fail
                  refine (HLEN.out).mono ?_
                  rintro e w' ⟨rfl, rfl⟩
                  go_wp2_with fail
                  go_meet
                  exact ⟨rfl, rfl⟩
                | cons e K' =>
                  have hz : walkF 1 (e :: K') = [e] := rfl
                  rw [hz] at HC13 ⊢
                  obtain ⟨ad, rfl, x1, x2⟩ := at_E HC13.out 0 (by simp)
                  have hT : headT (e :: K') = e.2 := rfl
                  have hlate := (HLt.out e List.mem_cons_self).1
                  have x2' : w4.cell? ⟨(ad.add 0).block, (ad.add 0).off + 1, none⟩ = some (.int .i64 e.2) := x2
                  have x3 : w4.cell? ⟨ad.block, ad.off + 1, none⟩ = some (.int .i64 e.2) := x2
                  rw [hT]
                  have hd : decide (0 < (e :: K').length) = true := by simp
                  rw [hd]
                  have hge : ((0 : Int) < ((e :: K').length : Int)) := by rw [List.length_cons]; omega
                  have hl1 : ([e] : List E).length = 1 := rfl
                  rw [hl1]
                  generalize (e :: K').length = nK at *
                  have f1 : decide (e.2 ≤ T) = false := by simp; omega
                  generalize e.2 = et at *
                  have HX2 := Aside0.mk x2
                  clear x1 x2 hT hlate hd hl1
                  go_wp2_with fail
                  refine (HLEN.out).mono ?_
                  rintro e w' ⟨rfl, rfl⟩
                  go_wp2_with fail
                  refine (HLEN.out).mono ?_
                  rintro e w' ⟨rfl, rfl⟩
                  go_wp2_with fail
                  go_meet
                  exact ⟨rfl, rfl⟩
              case rest =>
              obtain ⟨rfl, rfl⟩ := hcut
              obtain ⟨ad, rfl, cc⟩ := at_I (Kd.C_below H2.out HB4.out) i h
              obtain ⟨q0, q1⟩ := HS.out _ (List.getElem_mem h)
              generalize stops[i] = x at *
              have hbw := winF_bd (lo := 0) (hi := 1073741824) q0 q1 (by omega)
              have HWI := Aside0.mk (show ∀ w, Calls Try.prog 10 #[.int .i64 x, .int .i64 0, .int .i64 1073741824] w fun e w' => e = .returned (.int .i64 (winF x 0 1073741824)) ∧ w = w' from fun w => within_calls x 0 1073741824 w q0 q1 (by omega) (by omega) (by omega))
              generalize winF x 0 1073741824 = d at *
              have e2 : IntKind.i64.wrap (T + d) = T + d := IntWalk.i64_in _ (by omega)
              have i0 : (0 : Int) ≤ (i : Int) := by omega
              have i1 : (i : Int) < (stops.length : Int) := by omega
              go_wp2_with fail
              refine (HWI.out _).mono ?_
              rintro e w' ⟨rfl, rfl⟩
              by_cases hmx : 1099511627776 < T + d
              · have f1 : decide (1099511627776 < T + d) = true := by simpa using hmx
                go_wp2_with fail
                go_ret
                exact ⟨rfl, HB4.out⟩
              · have f1 : decide (1099511627776 < T + d) = false := by simpa using hmx
                go_wp2_with fail
                generalize hT2 : T + d = T2 at *
                have hfall := upC_falls (n1 := T) (n2 := T2) (by omega) (by omega)
                have hdone := told_left T2 K
                have hlate2 := left_late (t := T2) (l := K) (fun e he => (HLt.out e he).2)
                have hup2 := upC_seven (now := T2) (l := leftF T2 K) (by omega) hlate2
                refine (advance_calls HW4.out T2 (by omega) (by omega) (by omega)).mono ?_
                rintro e w5 ⟨v16, rfl, hR5, hW5, hO5⟩
                have HFALL := Aside0.mk (show ∀ k, upC T2 (leftF T2 K) k ≤ upC T K k from fun k => hfall k K)
                have hK2l : (leftF T2 K).length ≤ K.length := List.length_filter_le _ _
                have hT2l : (toldF T2 K).length ≤ K.length := List.length_filter_le _ _
                have hLL : leftF T2 K = leftF T2 L := by rw [HK.out]; exact left_step (by omega) L
                obtain ⟨K2, hK2⟩ : ∃ K2, K2 = leftF T2 K := ⟨_, rfl⟩
                rw [← hK2] at hdone hup2 HFALL hW5 hK2l hLL
                obtain ⟨A16, c16, rfl, hc16, hC16⟩ := Kd.R_reads hR5
                have hl16 : ((toldF T2 K).map Prod.fst).length + K2.length = K.length := by rw [List.length_map]; exact hdone
                generalize (toldF T2 K).map Prod.fst = ids at *
                have HA5 := Aside0.mk (HA4.out.move (hO5.block _ hga4 (fun hb => by have := HOL.out _ hb; omega)))
                have HW5 := Aside0.mk hW5
                have HB5 := Aside0.mk (hO5.below_of HB4.out HB4.out.size (fun b hb hq => by have := HO1.out b hq; omega))
                have HZ5 := Aside0.mk hO5.size
                have HLL := Aside0.mk hLL
                have HUP2 := Aside0.mk hup2
                have HL16 := Aside0.mk hl16
                clear hW5 hO5 hC16 hR5 hLL hup2 hdone hlate2 hfall hK2 HWI HC13 HA4 HW4 hl16 hT2l
                go_wp2_with fail
                refine (spread_calls HW5.out).mono ?_
                rintro e w6 ⟨rfl, hB6⟩
                obtain ⟨sg, hsg⟩ : ∃ sg, sg = spr T2 K2 := ⟨_, rfl⟩
                rw [← hsg]
                have HSG := Aside0.mk hsg
                clear hsg
                unfold sprV
                have HA7 := Aside0.mk (show Arr7 (w6.alloc (.cells #[.int .i64 (sg 0), .int .i64 (sg 1), .int .i64 (sg 2), .int .i64 (sg 3), .int .i64 (sg 4), .int .i64 (sg 5), .int .i64 (sg 6)] 36 (0, 0))) w6.heap.size sg from heap_alloc_new _ _)
                have hga6 : ga < w6.heap.size := Nat.lt_of_lt_of_le HA5.out.lt hB6.size
                have HAA := Aside0.mk (show Arr7 (w6.alloc (.cells #[.int .i64 (sg 0), .int .i64 (sg 1), .int .i64 (sg 2), .int .i64 (sg 3), .int .i64 (sg 4), .int .i64 (sg 5), .int .i64 (sg 6)] 36 (0, 0))) ga sf from (HA5.out.move (hB6.block _ HA5.out.lt)).move (Below.heap_alloc w6 _ _ hga6))
                have HW7 := Aside0.mk ((HW5.out.below hB6).below (below_alloc (Below.refl _ _) (.cells #[.int .i64 (sg 0), .int .i64 (sg 1), .int .i64 (sg 2), .int .i64 (sg 3), .int .i64 (sg 4), .int .i64 (sg 5), .int .i64 (sg 6)] 36 (0, 0))))
                have HB7 := Aside0.mk (below_alloc (HB5.out.trans (hB6.mono HB5.out.size)) (.cells #[.int .i64 (sg 0), .int .i64 (sg 1), .int .i64 (sg 2), .int .i64 (sg 3), .int .i64 (sg 4), .int .i64 (sg 5), .int .i64 (sg 6)] 36 (0, 0)))
                have HZ7 := Aside0.mk (show w1.heap.size ≤ (w6.alloc (.cells #[.int .i64 (sg 0), .int .i64 (sg 1), .int .i64 (sg 2), .int .i64 (sg 3), .int .i64 (sg 4), .int .i64 (sg 5), .int .i64 (sg 6)] 36 (0, 0))).heap.size from by rw [World.size_alloc]; omega)
                clear hB6 HW5 HA5 HB5 HZ5
                go_wp2_with fail
                generalize (w6.alloc (.cells #[.int .i64 (sg 0), .int .i64 (sg 1), .int .i64 (sg 2), .int .i64 (sg 3), .int .i64 (sg 4), .int .i64 (sg 5), .int .i64 (sg 6)] 36 (0, 0))) = w7 at *
                generalize w6.heap.size = gb at *
                go_loopg [19, 20, 21] 7 (fun g v19 v20 v21 wx => ∃ q : Nat, g = 7 - q ∧ q ≤ 7 ∧ v21 = .int .i64 (((7 - q : Nat) : Int) - 1) ∧ v19 = .int .i64 (upC T K (7 - q)) ∧ v20 = .int .i64 (upC T2 K2 (7 - q)) ∧ w7 = wx)
                case atStart => exact ⟨0, rfl, by omega, rfl, by rw [show 7 - 0 = 7 from rfl, HUP.out]; rfl, by rw [show 7 - 0 = 7 from rfl, HUP2.out]; rfl, rfl⟩
                case round =>
                  obtain ⟨q, rfl, hq, rfl, rfl, rfl, rfl⟩ := hrel
                  obtain ⟨m, hmq⟩ : ∃ m, 7 - q = m := ⟨_, rfl⟩
                  rw [hmq]
                  rcases Nat.eq_zero_or_pos m with h0 | h0
                  · subst h0
                    have HLE7 := Aside0.mk (len_calls HW7.out)
                    have e7 : IntKind.i64.wrap ((ids.length : Int) + (K2.length : Int)) = (K.length : Int) := by have := HL16.out; rw [IntWalk.i64_in _ (by omega)]; omega
                    have e8 : ((K.length : Int) != (K.length : Int)) = false := by simp
                    generalize ids.length = nI at *
                    generalize K2.length = nK2 at *
                    go_wp2_with fail
                    refine (HLE7.out).mono ?_
                    rintro e w' ⟨rfl, rfl⟩
                    go_wp2_with fail
                    go_roundg (stops.length - (i + 1))
                    case measure => omega
                    case rel => exact ⟨i + 1, T2, rfl, by omega, by go_num, rfl, by omega, by omega, ⟨HLL.out ▸ HW7.out⟩, HB7, HZ7⟩
                  · obtain ⟨k, rfl⟩ : ∃ k, m = k + 1 := ⟨m - 1, by omega⟩
                    have hck := HAA.out.get (k := k) (by omega)
                    have hcg := HA7.out.get (k := k) (by omega)
                    have hs1 := upC_step T k K
                    have hs2 := upC_step T2 k K2
                    have hle := HFALL.out k
                    rw [show spr T K k = sf k from by rw [HSF.out]] at hs1
                    rw [show spr T2 K2 k = sg k from by rw [HSG.out]] at hs2
                    have hb1 : upC T K k ≤ K.length := List.length_filter_le _ _
                    have hb2 : upC T2 K2 k ≤ K2.length := List.length_filter_le _ _
                    have hkk : (((k + 1 : Nat) : Int) - 1) = (k : Int) := by omega
                    rw [hkk]
                    have b0 : (0 : Int) ≤ (k : Int) := by omega
                    have b1 : (k : Int) < 7 := by omega
                    have HMQ := Aside0.mk hmq
                    generalize hua : upC T K (k + 1) = ua at *
                    generalize hub : upC T K k = ub at *
                    generalize hva : upC T2 K2 (k + 1) = va at *
                    generalize hvb : upC T2 K2 k = vb at *
                    generalize sf k = sfk at *
                    generalize sg k = sgk at *
                    have e1 : IntKind.i64.wrap ((ua : Int) + (sfk : Int)) = (ub : Int) := by rw [IntWalk.i64_in _ (by omega)]; omega
                    have e2 : IntKind.i64.wrap ((va : Int) + (sgk : Int)) = (vb : Int) := by rw [IntWalk.i64_in _ (by omega)]; omega
                    have e3 : decide ((ub : Int) < (vb : Int)) = false := by simp; omega
                    have e3b : decide (ub < vb) = false := by simp; omega
                    have e4 : IntKind.i64.wrap ((k : Int) - 1) = (k : Int) - 1 := IntWalk.i64_in _ (by omega)
                    have HU := Aside0.mk (And.intro hub hvb)
                    clear hs1 hs2 hua hub hva hvb hmq hkk
                    go_wp2_with fail
                    go_roundg (7 - (q + 1))
                    case measure => have := HMQ.out; omega
                    case rel =>
                      have h1 := HMQ.out
                      have h2 : 7 - (q + 1) = k := by omega
                      exact ⟨q + 1, rfl, by omega, by rw [h2], by rw [h2, HU.out.1], by rw [h2, HU.out.2], rfl⟩
        · have d0 : (i : Int) < (stops.length : Int) := by omega
          have d1 : decide ((i : Int) < 100) = false := by simp; omega
          go_wp2_with fail
          go_meet
          exact ⟨_, rfl, HBX⟩
      · have d0 : decide ((i : Int) < (stops.length : Int)) = false := by simp; omega
        go_wp2_with fail
        go_meet
        exact ⟨_, rfl, HBX⟩
  case rest =>
    obtain ⟨wr, rfl, HBX⟩ := hcut
    clear HW1
    go_wp2_with fail
    refine (new_calls now _ n0 (by omega)).mono ?_
    rintro e w2 ⟨rfl, hW2, hB2⟩
    have HW2 := Aside0.mk hW2
    have HB2 := Aside0.mk (HBX.out.trans (hB2.mono HBX.out.size))
    have hzr := HBX.out.size
    clear hW2 hB2
    generalize wr.heap.size = gr at *
    go_wp2_with fail
    go_loopg [24, 25, 26, 27, 28, 29] fs.length (fun g v24 v25 v26 v27 v28 v29 wx => ∃ i : Nat, g = fs.length - i ∧ i ≤ fs.length ∧ v24 = .int .i64 i ∧ Aside0 (∃ O', Whl wx O' (gr + 1) now [] ∧ ∀ b, O' b → w.heap.size ≤ b) ∧ Aside0 (Below w.heap.size w wx))
    case atStart => exact ⟨0, rfl, by omega, rfl, ⟨_, HW2.out, fun b hb => by have := hb.1; omega⟩, HB2⟩
    case round =>
      clear HW2 HB2 HBX
      obtain ⟨i, rfl, hi, rfl, HW, HBX⟩ := hrel
      by_cases h : i < fs.length
      · obtain ⟨ad, rfl, cc⟩ := at_I (Kd.C_below H1.out HBX.out) i h
        obtain ⟨q0, q1⟩ := HFS.out _ (List.getElem_mem h)
        obtain ⟨e1, e2⟩ := i64_far n0 n1 HFS.out h
        have hbd := winF_bd (lo := 0) (hi := 549755813888) q0 q1 (by omega)
        have htt : now < farT now fs i ∧ farT now fs i ≤ 1099511627776 := by
          unfold farT
          rw [List.getD_eq_getElem?_getD, List.getElem?_eq_getElem h]
          show now < now + 1 + winF fs[i] 0 549755813888 ∧ now + 1 + winF fs[i] 0 549755813888 ≤ _
          omega
        have HWI := Aside0.mk (show ∀ w, Calls Try.prog 10 #[.int .i64 fs[i], .int .i64 0, .int .i64 549755813888] w fun e w' => e = .returned (.int .i64 (winF fs[i] 0 549755813888)) ∧ w = w' from fun w => within_calls fs[i] 0 549755813888 w q0 q1 (by omega) (by omega) (by omega))
        generalize winF fs[i] 0 549755813888 = wk at *
        generalize fs[i] = fk at *
        generalize farT now fs i = t at *
        obtain ⟨t1, t2⟩ := htt
        have i0 : (0 : Int) ≤ (i : Int) := by omega
        have i1 : (i : Int) < (fs.length : Int) := by omega
        have hrg7 := rg_lt7 n0 t1 t2
        have hte : timeE now t = 0 := by unfold timeE; rw [if_pos (by omega), if_neg (by omega)]
        have hadd : addE now [] ⟨#[120]⟩ t = 0 := by
          unfold addE
          rw [if_pos (by decide), if_neg (by decide), if_pos hte, if_neg (by simp)]
        have haddL : addL now [] ⟨#[120]⟩ t = [(⟨#[120]⟩, t)] := by unfold addL; rw [if_pos hadd]; rfl
        have hfin : findE [((⟨#[120]⟩ : ByteArray), t)] ⟨#[120]⟩ = 0 := by
          unfold findE
          rw [if_pos (by decide), if_pos (hasB_iff.2 (by simp))]
        have hrem : removeL [((⟨#[120]⟩ : ByteArray), t)] ⟨#[120]⟩ = [] := by
          unfold removeL
          rw [if_pos hfin]
          unfold cutF
          simp
        have HSH := Aside0.mk (fun k => shift_ne (t := t) (now := now) (by omega) n0 k)
        have HF := Aside0.mk (And.intro hadd (And.intro haddL (And.intro hfin hrem)))
        clear hte hadd haddL hfin hrem hbd q0 q1
        go_wp2_with fail
        refine (HWI.out _).mono ?_
        rintro e w' ⟨rfl, rfl⟩
        go_wp2_with fail
        obtain ⟨O2, hw, ho⟩ := HW.out
        refine (add_calls hw ⟨#[120]⟩ t (by decide)).mono ?_
        rintro e w3 ⟨rfl, O3, hW3, hO3, hon3⟩
        rw [HF.out.1]
        rw [HF.out.2.1] at hW3
        have HW3 := Aside0.mk hW3
        have HO3 := Aside0.mk (show ∀ b, O3 b → w.heap.size ≤ b from fun b hb => (hO3 b hb).elim (ho b) (fun q => Nat.le_trans HBX.out.size q))
        have HB3 := Aside0.mk (hon3.below_of HBX.out HBX.out.size (fun k hk hb => by have := ho k hb; omega))
        clear hw ho hW3 hO3 hon3 HW HBX
        go_wp2_with fail
        refine (spread_calls HW3.out).mono ?_
        rintro e w4 ⟨rfl, hB4⟩
        obtain ⟨sf, hsf⟩ : ∃ sf, sf = spr now [((⟨#[120]⟩ : ByteArray), t)] := ⟨_, rfl⟩
        rw [← hsf]
        have hs1 : sf (rg t now) = 1 := by rw [hsf, spr_one, if_pos rfl]
        clear hsf
        unfold sprV
        have HA5 := Aside0.mk (show Arr7 (w4.alloc (.cells #[.int .i64 (sf 0), .int .i64 (sf 1), .int .i64 (sf 2), .int .i64 (sf 3), .int .i64 (sf 4), .int .i64 (sf 5), .int .i64 (sf 6)] 36 (0, 0))) w4.heap.size sf from heap_alloc_new _ _)
        have HW5 := Aside0.mk ((HW3.out.below hB4).below (below_alloc (Below.refl _ _) (.cells #[.int .i64 (sf 0), .int .i64 (sf 1), .int .i64 (sf 2), .int .i64 (sf 3), .int .i64 (sf 4), .int .i64 (sf 5), .int .i64 (sf 6)] 36 (0, 0))))
        have HB5 := Aside0.mk (below_alloc (HB3.out.trans (hB4.mono HB3.out.size)) (.cells #[.int .i64 (sf 0), .int .i64 (sf 1), .int .i64 (sf 2), .int .i64 (sf 3), .int .i64 (sf 4), .int .i64 (sf 5), .int .i64 (sf 6)] 36 (0, 0)))
        have HOA := Aside0.mk (show ∀ b, O3 b → b ≠ w4.heap.size from fun b hb q => by have := HW3.out.lt b hb; have := hB4.size; omega)
        clear hB4 HW3 HB3
        generalize hR : rg t now = R at *
        have HS1 := Aside0.mk hs1
        clear hs1 hR
        go_wp2_with fail
        generalize (w4.alloc (.cells #[.int .i64 (sf 0), .int .i64 (sf 1), .int .i64 (sf 2), .int .i64 (sf 3), .int .i64 (sf 4), .int .i64 (sf 5), .int .i64 (sf 6)] 36 (0, 0))) = w5 at *
        generalize w4.heap.size = ga at *
        go_loopg [28] R (fun g v28 wx => ∃ k : Nat, g = R - k ∧ k ≤ R ∧ v28 = .int .i64 k ∧ Aside0 (∃ q, wx = w5.drewN q))
        case atStart => exact ⟨0, rfl, by omega, rfl, ⟨0, rfl⟩⟩
        case round =>
          obtain ⟨k, rfl, hk, rfl, HQ⟩ := hrel
          by_cases hkR : k < R
          · have s1 : (t / 2 ^ (6 * k + 6) != now / 2 ^ (6 * k + 6)) = true := by rw [HSH.out k]; simpa using hkR
            go_wp2_with fail
            go_quiet (fail)
            go_wp2_with fail
            go_roundg (R - (k + 1))
            case measure => omega
            case rel => exact ⟨k + 1, rfl, by omega, by go_num, ⟨dr_ex (by repeat (first | exact HQ.out | apply dr_step | apply dr_stepN))⟩⟩
          · obtain rfl : k = R := by omega
            have s1 : (t / 2 ^ (6 * k + 6) != now / 2 ^ (6 * k + 6)) = false := by rw [HSH.out k]; simp
            have cA : wr.cell? ⟨ga, k, none⟩ = some (.int .i64 1) := by
              obtain ⟨q, hq⟩ := HQ.out
              rw [hq]
              have h1 := HA5.out.get (k := k) hrg7
              rw [HS1.out] at h1
              exact h1
            have HWQ := Aside0.mk (show ∀ n, Whl (wr.drewN n) O3 (gr + 1) now [((⟨#[120]⟩ : ByteArray), t)] from fun n => by obtain ⟨q, hq⟩ := HQ.out; rw [hq]; exact (HW5.out.drewN q).drewN n)
            have HBQ := Aside0.mk (show ∀ n, Below w.heap.size w (wr.drewN n) from fun n => by obtain ⟨q, hq⟩ := HQ.out; rw [hq]; exact pw_below_drewN (pw_below_drewN HB5.out q) n)
            have k0 : (0 : Int) ≤ (k : Int) := by omega
            have k7 : (k : Int) < 7 := by omega
            go_wp2_with fail
            go_quiet (fail)
            go_wp2_with fail
            refine (remove_calls (HWQ.out _) ⟨#[120]⟩ (by decide)).mono ?_
            rintro e w8 ⟨rfl, O8, hW8, hO8, hon8⟩
            rw [HF.out.2.2.1]
            rw [HF.out.2.2.2] at hW8
            have cA8 : w8.cell? ⟨ga, k, none⟩ = some (.int .i64 1) := hon8.cell cA (fun hb => HOA.out ga hb rfl)
            have HW8 := Aside0.mk hW8
            have HO8 := Aside0.mk (show ∀ b, O8 b → w.heap.size ≤ b from fun b hb => (hO8 b hb).elim (HO3.out b) (fun q => Nat.le_trans (HBQ.out _).size q))
            have HB8 := Aside0.mk (hon8.below_of (HBQ.out _) (HBQ.out _).size (fun k hk hb => by have := HO3.out k hb; omega))
            clear hW8 hO8 hon8
            go_wp2_with fail
            refine (len_calls HW8.out).mono ?_
            rintro e w' ⟨rfl, rfl⟩
            simp only [List.length_nil]
            go_wp2_with fail
            go_roundg (fs.length - (i + 1))
            case measure => omega
            case rel => exact ⟨i + 1, rfl, by omega, by go_num, ⟨O8, HW8.out, HO8.out⟩, HB8⟩
      · obtain rfl : i = fs.length := by omega
        go_wp2_with fail
        go_ret
        exact ⟨rfl, HBX.out⟩
theorem rings_row (x0 : Int) (A1 : Option Addr) (c1 : Nat) (far : List Int) (A2 : Option Addr) (c2 : Nat) (stops : List Int) (w : World) (h1 : Kd.C (Kd.int .i64) w A1 far.length far) (hc1 : far.length ≤ c1) (h2 : Kd.C (Kd.int .i64) w A2 stops.length stops) (hc2 : stops.length ≤ c2)
    (g0 : (Lit.int .i64 x0).wf = true) (g1 : (∀ z ∈ far, (Lit.int .i64 z).wf = true) ∧ far.length * 8 ≤ 140737488351232 ∧ far.length ≤ maxLen) (g2 : (∀ z ∈ stops, (Lit.int .i64 z).wf = true) ∧ stops.length * 8 ≤ 140737488351232 ∧ stops.length ≤ maxLen) :
    Calls Try.prog 7 #[.int .i64 x0, .slice A1 far.length c1, .slice A2 stops.length c2] w fun e w' => e = .returned (.bool true) ∧ Below w.heap.size w w' :=
  rings_true x0 A1 c1 far A2 c2 stops w h1 hc1 h2 hc2 (bounds_i64 g0) (fun x hx => bounds_i64 (g1.1 x hx)) (fun x hx => bounds_i64 (g2.1 x hx)) (by have := g1.2.1; omega) (by have := g2.2.1; omega)
end Go.Proofs.Ytaefbibkkkglnaa.Wh
