/- Wheel: Advance. No condition. -/
import Derived.Test.YtaefbibkkkglnaaWhU
namespace Go.Proofs.Ytaefbibkkkglnaa.Wh
open Go Go.RowKit Go.Proofs.YtaefbibkkkglnaaW.PrintWords Go.Proofs.Ytaefbibkkkglnaa.Mp Go.Proofs.Ytaefbibkkkglnaa.Fr
set_option linter.unusedVariables false
set_option linter.unusedSimpArgs false
attribute [local go_sem] bits_and63

theorem infoTP : (Try.prog.info? 65).map (fun i => (i.zero, i.size, i.bytes)) = some (some (.pointer none), 1, 8) := by kernel_rfl
theorem infoS : (Try.prog.info? 9).map (fun i => (i.zero, i.size, i.bytes)) = some (some (.string ⟨#[]⟩), 1, 16) := by kernel_rfl
theorem shift_dig {t : Int} {r : Nat} (h : 0 ≤ t) : t / 2 ^ (6 * r) % 64 = ((dg r t : Nat) : Int) := by
  obtain ⟨T, rfl⟩ := Int.eq_ofNat_of_zero_le h
  unfold dg dig
  have e2 : ((2 : Int) ^ (6 * r)) = ((64 ^ r : Nat) : Int) := by
    rw [show (64 : Nat) ^ r = 2 ^ (6 * r) from by rw [Nat.pow_mul]]
    rw [Int.natCast_pow]
    rfl
  rw [e2]
  simp
section
variable {w w' : World} {O : Nat → Prop} {p : Nat} {now : Int} {l : List E}
set_option maxRecDepth 100000 in
theorem nil_advance (t : Int) (w : World) : Calls Try.prog 14 #[.pointer none, .int .i64 t] w fun e w' => e = .returned (.tuple #[.slice none 0 0, .int .i64 0]) ∧ w = w' := by
  go_enter Try.func14, Try.ntmps14
  go_wp2_with fail
  go_step3
  go_wp2_with fail
  rw [Exit.noGoto_ret]
  go_ret2
  exact ⟨rfl, rfl⟩
set_option maxRecDepth 100000 in
theorem adv_bad (t : Int) (a : Nat) (w : World) (h : ¬ (0 ≤ t ∧ t ≤ 1099511627776)) : Calls Try.prog 14 #[.pointer (some ⟨a, 0, none⟩), .int .i64 t] w fun e w' => e = .returned (.tuple #[.slice none 0 0, .int .i64 2]) ∧ ∃ n, w' = w.drewN n := by
  have HT := Aside0.mk (decide_eq_false h)
  clear h
  go_enter Try.func14, Try.ntmps14
  go_wp2_with fail
  go_step3
  go_wp2_with fail
  refine (isTime_calls t _).mono ?_
  rintro e w' ⟨rfl, n, rfl⟩
  rw [HT.out]
  go_wp2_with fail
  rw [Exit.noGoto_ret]
  go_ret2
  exact ⟨rfl, n, rfl⟩
set_option maxRecDepth 100000 in
theorem adv_past (t : Int) (w : World) (h : 0 ≤ t ∧ t ≤ 1099511627776) (hc : w.cell? ⟨p, 0, none⟩ = some (.int .i64 now)) (h2 : t < now) : Calls Try.prog 14 #[.pointer (some ⟨p, 0, none⟩), .int .i64 t] w fun e w' => e = .returned (.tuple #[.slice none 0 0, .int .i64 110]) ∧ ∃ n, w' = w.drewN n := by
  have HT := Aside0.mk (decide_eq_true h)
  have hd : decide (t < now) = true := by simpa using h2
  clear h h2
  go_enter Try.func14, Try.ntmps14
  go_wp2_with fail
  go_step3
  go_wp2_with fail
  refine (isTime_calls t _).mono ?_
  rintro e w' ⟨rfl, n, rfl⟩
  rw [HT.out]
  go_wp2_with fail
  rw [Exit.noGoto_ret]
  go_ret2
  exact ⟨rfl, n, rfl⟩

def AdvPost (w : World) (O : Nat → Prop) (p m : Nat) (t : Int) (S : Slots) (e : Ending) (w' : World) : Prop :=
  ∃ (v : Value) (D' : List Node), e = .returned (.tuple #[v, .int .i64 0]) ∧ Kd.string.R 9 w' w.heap.size (fun _ => True) v (D'.map Node.id) ∧ D'.Perm (gone t (nodes S)) ∧ Sorted (D'.map ent) ∧ (∃ S', Rep w' O p m t S' [] ∧ Good t S' ∧ (nodes S').Perm (kept t (nodes S))) ∧ Only O w w'
set_option maxRecDepth 100000 in
set_option maxHeartbeats 8000000 in
theorem adv_main {m : Nat} {S : Slots} (t : Int) (hrep : Rep w O p m now S []) (hgood : Good now S) (hlt : ∀ b, O b → b < w.heap.size) (hn0 : 0 ≤ now) (hn1 : now ≤ 1099511627776) (ht0 : 0 ≤ t) (ht1 : t ≤ 1099511627776) (hnt : now ≤ t) (hfew : (nodes S).length ≤ 4096) :
    Calls Try.prog 14 #[.pointer (some ⟨p, 0, none⟩), .int .i64 t] w (AdvPost w O p m t S) := by
  have HT := Aside0.mk (decide_eq_true (And.intro ht0 ht1))
  have hdt : decide (t < now) = false := by simp; omega
  have c0 := hrep.head.c0
  have hmv : rg t now < 7 := ring_lt (by omega) (by omega)
  have HL : Aside0 (∀ w : World, Calls Try.prog 30 #[.int .i64 t, .int .i64 now] w fun e w' => e = .returned (.int .i64 (rg t now)) ∧ w = w') := ⟨fun w => level_calls t now w ht0 ht1 hn0 hn1⟩
  generalize hmvv : rg t now = mv at hmv HL
  have HMW := Aside0.mk hmvv
  clear hmvv
  have HREP := Aside0.mk hrep
  have HG := Aside0.mk hgood
  have HO := Aside0.mk hlt
  have hB := hrep.head.lt
  clear hrep hgood hlt
  go_enter Try.func14, Try.ntmps14
  go_wp2_with fail
  go_step3
  go_wp2_with fail
  refine (isTime_calls t _).mono ?_
  rintro e w' ⟨rfl, n, rfl⟩
  rw [HT.out]
  go_wp2_with fail
  refine (HL.out _).mono ?_
  rintro e w' ⟨rfl, rfl⟩
  go_wp2_with fail
  go_step3
  go_wp2_with fail
  have I0 : Aside0 (InvA w (w.drewN n) O p m now S (.slice none 0 0) S []) := ⟨⟨HREP.out.drewN n, Kd.R_nil _ _ _ _ _, List.Perm.refl _, HG.out, (Only.refl O w).drewN n⟩⟩
  have hsz0 : Aside0 (w.heap.size ≤ (w.drewN n).heap.size) := ⟨Nat.le_refl _⟩
  clear c0
  go_loopg [7, 8] 8 (fun g v7 v8 wx => ∃ (r : Nat) (S' : Slots) (F : List Node), g = 8 - r ∧ r ≤ mv + 1 ∧ v8 = .int .i64 r ∧ Aside0 (OutA mv (dg mv t) S S' r) ∧ Aside0 (InvA w wx O p m now S v7 S' F))
  case atStart => exact ⟨0, S, [], rfl, by omega, rfl, ⟨outA_zero _ _ _⟩, I0⟩
  case round =>
    clear I0 hsz0
    obtain ⟨r, S', F, rfl, hr, rfl, HOA, HI⟩ := hrel
    by_cases hrm : r ≤ mv
    · have i0 : (0 : Int) ≤ (r : Int) := by omega
      have i1 : (r : Int) < 7 := by omega
      have k1 := HI.out.rep.head.count (r := r) (by omega)
      by_cases hcz : cnt S' r = 0
      · rw [hcz] at k1
        have H2 := Aside0.mk (outA_skip HOA.out hcz)
        clear hcz
        go_wp2_with fail
        go_roundg (8 - (r + 1))
        case measure => omega
        case rel => exact ⟨r + 1, S', F, rfl, by omega, by go_num, H2, HI⟩
      · have hcz' : ((cnt S' r : Int) == 0) = false := beq_eq_false_iff_ne.2 (by omega)
        have HC := Aside0.mk hcz
        clear hcz
        -- how far the ring falls
        obtain ⟨la, hla, hfl, hla2⟩ : ∃ la : Nat, la < 64 ∧ (∀ k', k' < 64 → (k' < la + 1 ↔ fall mv (dg mv t) r k')) ∧ ((r = mv ∧ la = dg r t) ∨ (r ≠ mv ∧ la = 63)) := by
          by_cases e : r = mv
          · exact ⟨dg mv t, dig_lt _ _, fun k' hk' => by unfold fall; omega, .inl ⟨e, by rw [e]⟩⟩
          · exact ⟨63, by omega, fun k' hk' => by unfold fall; omega, .inr ⟨e, rfl⟩⟩
        have HFL := Aside0.mk hfl
        clear hfl
        have H0 := Aside0.mk (outA_in HOA.out)
        obtain ⟨wo, hwo⟩ : ∃ wo : World, wr = wo := ⟨_, rfl⟩
        subst hwo
        go_upto_if 52 with fail
        go_cut [9] (fun s9 wx => wr = wx ∧ ∃ lv : Int, s9 = .int .i64 lv ∧ Aside0 (lv = la) ∧ 0 ≤ lv ∧ lv < 64)
        case first =>
          rcases hla2 with ⟨hrm2, hla2⟩ | ⟨hrm2, hla2⟩
          · have hsh : t / 2 ^ (6 * r) % 64 = ((dg r t : Nat) : Int) := shift_dig ht0
            have d1 : ((r : Int) == (mv : Int)) = true := by simp [hrm2]
            have HLA := Aside0.mk hla2
            clear hla2 hrm2
            go_wp2_with fail
            go_meet
            exact ⟨rfl, _, rfl, ⟨by rw [HLA.out]⟩, by omega, by have := dig_lt r t.toNat; unfold dg; omega⟩
          · have d1 : ((r : Int) == (mv : Int)) = false := by rw [beq_eq_false_iff_ne]; omega
            have HLA := Aside0.mk hla2
            clear hla2 hrm2
            go_wp2_with fail
            go_meet
            exact ⟨rfl, _, rfl, ⟨by rw [HLA.out]; rfl⟩, by omega, by omega⟩
        case rest =>
          obtain ⟨rfl, lv, rfl, HLV, l0, l1⟩ := hcut
          go_wp2_with fail
          clear HOA HC k1 hcz'
          go_loopg [7, 10, 11] 65 (fun g v7 v10 v11 wx => ∃ (k : Nat) (S' : Slots) (F : List Node), g = 65 - k ∧ k ≤ la + 1 ∧ v10 = .int .i64 k ∧ Aside0 (InA mv (dg mv t) S S' r k) ∧ Aside0 (InvA w wx O p m now S v7 S' F))
          case atStart => exact ⟨0, S', F, rfl, by omega, rfl, H0, HI⟩
          case round =>
            clear HI H0
            obtain ⟨k, S1, F1, rfl, hk, rfl, HIA, HI⟩ := hrel
            by_cases hkl : k ≤ la
            · have hkl' : (k : Int) ≤ lv := by have := HLV.out; omega
              have j0 : (0 : Int) ≤ (k : Int) := by omega
              have j1 : (k : Int) < 64 := by omega
              have k2 := HI.out.rep.head.slot (r := r) (k := k) (by omega) (by omega)
              rw [show 1 + 64 * r + k = 1 + r * 64 + k from by omega] at k2
              obtain ⟨x1, hx1⟩ : ∃ x1, ptr (hd none (S1 r k)) = .pointer x1 := ⟨_, rfl⟩
              rw [hx1] at k2
              have HX := Aside0.mk hx1
              have HCA := Aside0.mk (inA_ch HIA.out)
              clear hx1 HIA
              go_wp2_with fail
              go_loopg [7, 11] (S1 r k).length (fun g v7 v11 wx => ∃ (S' : Slots) (F : List Node), g = (S' r k).length ∧ v11 = ptr (hd none (S' r k)) ∧ Aside0 (ChA mv (dg mv t) S S' r k) ∧ Aside0 (InvA w wx O p m now S v7 S' F))
              case atStart => exact ⟨S1, F1, rfl, HX.out.symm, HCA, HI⟩
              case round =>
                clear HI HCA HX k2
                obtain ⟨S2, F, rfl, e11, HCA, HI⟩ := hrel
                cases hS : S2 r k with
                | nil =>
                  rw [hS] at e11
                  obtain rfl : _ = Value.pointer none := e11
                  have HN := Aside0.mk (chA_in HCA.out hS)
                  clear hS
                  go_wp2_with fail
                  go_roundg (65 - (k + 1))
                  case measure => omega
                  case rel => exact ⟨k + 1, S2, F, rfl, by omega, by go_num, HN, HI⟩
                | cons y ys =>
                  rw [hS] at e11
                  obtain rfl : _ = Value.pointer (some ⟨y.b, 0, none⟩) := e11
                  have HS := Aside0.mk hS
                  clear hS
                  have hgy := HI.out.good r k (by omega) (by omega) y (by rw [HS.out]; simp)
                  have hlen : (nodes S2).length ≤ 4096 ∧ F.length ≤ 4096 := by
                    have := HI.out.perm.length_eq
                    simp at this
                    omega
                  have HU := unhang_calls (t := y) (r := r) (xs := []) (ys := ys) HI.out.rep (by omega) (by omega) hgy.2.1 (by rw [hgy.2.2.2]; exact HS.out) (by omega)
                  rw [hgy.2.2.2] at HU
                  have HU := Aside0.mk HU
                  obtain ⟨_, hFl⟩ := hlen
                  clear hgy
                  go_wp2_with fail
                  refine (HU.out).mono ?_
                  rintro e w1 ⟨rfl, hR1, hO1⟩
                  have HR1 := Aside0.mk (R_keep HI.out.row hO1 (fun b hb _ => HO.out b hb))
                  have HS1 := Aside0.mk (Nat.le_trans HI.out.only.size hO1.size)
                  have HQ1 := Aside0.mk (And.intro hR1 hO1)
                  clear hR1 hO1 HU
                  go_upto_region 21 with (first | ((with_reducible refine gate_builtin (b := .append) (xs := #[.tmp 86, .tmp 88]) rfl ?_); at_builtin; refine Kd.R_append kN (w0 := w1) w.heap.size rfl (.tmp 86) (.tmp 88) 76 65 (.pointer none) 8 rfl Try.underlying76 infoTP rfl (by decide) (by omega) (u7) (F) (y) ([.pointer (some ⟨y.b, 0, none⟩)]) (fun _ => True) (fun _ => False) ?aV ?aX ?aP (fun _ hk => hk.elim) (fun _ _ => trivial) ?aO ?aB ?aS ?aL ?_; (case aV => rfl); (case aX => rfl); (case aP => exact rfl); (case aO => exact HR1.out); (case aB => exact ⟨rfl, rfl, rfl, Nat.le_refl _, fun _ _ => rfl⟩); (case aS => exact HS1.out); (case aL => (first | omega | (simp; omega))); intro v2 w2 hR2 hB2 hg2 hat2) | fail)
                  have hst := HI.out.step (by omega) (by omega) HS.out HQ1.out.1 HQ1.out.2 HO.out hR2 hg2
                  have k3 := hst.rep.head.slot (r := r) (k := k) (by omega) (by omega)
                  rw [show 1 + 64 * r + k = 1 + r * 64 + k from by omega, upd_same] at k3
                  obtain ⟨x2, hx2⟩ : ∃ x2, ptr (hd none ys) = .pointer x2 := ⟨_, rfl⟩
                  rw [hx2] at k3
                  have HX2 := Aside0.mk hx2
                  have HST := Aside0.mk hst
                  clear hx2 hst hR2 hB2 hg2 hat2 HR1 HS1 HQ1
                  go_wp2_with fail
                  go_roundg ys.length
                  case measure => rw [HS.out]; simp
                  case rel => exact ⟨upd S2 r k ys, F ++ [y], by rw [upd_same], by rw [upd_same]; exact HX2.out.symm, ⟨chA_upd HCA.out ys⟩, HST⟩
            · obtain rfl : k = la + 1 := by omega
              have hkl' : ¬ ((la + 1 : Nat) : Int) ≤ lv := by have := HLV.out; omega
              have HN := Aside0.mk (inA_out HIA.out HFL.out)
              go_wp2_with fail
              go_roundg (8 - (r + 1))
              case measure => omega
              case rel => exact ⟨r + 1, S1, F1, rfl, by omega, by go_num, HN, HI⟩
    · obtain rfl : r = mv + 1 := by omega
      have c0 := HI.out.rep.head.c0
      have f0 := HI.out.rep.head.fz 0
      have HG1 := Aside0.mk (outA_good HOA.out HG.out hn0 hnt HMW.out.symm rfl)
      obtain ⟨A, c, hv7, hle, hC⟩ := Kd.R_reads HI.out.row
      subst hv7
      have hlF : F.length ≤ 4096 := by
        have := HI.out.perm.length_eq
        simp at this
        omega
      have hp0 : O p := HI.out.rep.own.1
      have HB1 := Aside0.mk (InvB.start (HI.out.rep.setNow t) HG1.out (R_keep HI.out.row ((Only.refl O wr).set (fun _ => hp0) _) (fun b hb _ => HO.out b hb)) (HI.out.only.set (fun _ => hp0) _))
      have HC := Aside0.mk hC
      clear hC HG1
      go_wp2_with fail
      go_loopg [12, 96] (F.length) (fun g v12 v96 wx => ∃ (i : Nat) (S2 : Slots), g = F.length - i ∧ i ≤ F.length ∧ v96 = .int .i64 i ∧ Aside0 (InvB w wx O p m t S' F (.slice A F.length c) v12 i S2))
      case atStart => exact ⟨0, S', rfl, by omega, rfl, HB1⟩
      case round =>
        clear HB1 HC
        obtain ⟨i, S2, rfl, hi, rfl, HB⟩ := hrel
        by_cases hiF : i < F.length
        · have j0 : (0 : Int) ≤ (i : Int) := by omega
          have j1 : (i : Int) < (F.length : Int) := by omega
          obtain ⟨hn7, hc7, hC7⟩ := Kd.R_reads' HB.out.row
          obtain ⟨ad, hA, hcell⟩ := at_N hC7 i hiF
          subst hA
          have hmem : F[i] ∈ F.drop i := by rw [drop_cons hiF]; exact List.mem_cons_self
          obtain ⟨r0, a0, b0, hc⟩ := HB.out.rep.loose _ hmem
          obtain ⟨q0, q1, q2, q3, q4, q5⟩ := hc.c
          have HF := Aside0.mk (rfl : F[i] = F[i])
          generalize hy : F[i] = y at hcell hc q0 q1 q2 q3 q4 q5 HF
          have HY := Aside0.mk hy
          clear hy HF hC7 hn7 hc7 hc hmem q2 q3 q4
          by_cases hty : y.tm ≤ t
          · have d1 : decide (y.tm ≤ t) = true := by simpa using hty
            have hlg : (gone t (F.take i)).length ≤ 4096 := by
              have := List.length_filter_le (fun n : Node => decide (n.tm ≤ t)) (F.take i)
              have h2 := List.length_take_le i F
              unfold gone
              omega
            have HBR := Aside0.mk HB.out.drow
            have HBS := Aside0.mk HB.out.only.size
            go_upto_region 31 with (first | ((with_reducible refine gate_builtin (b := .append) (xs := #[.tmp 106, .tmp 108]) rfl ?_); at_builtin; refine Kd.R_append kN (w0 := wr) w.heap.size rfl (.tmp 106) (.tmp 108) 76 65 (.pointer none) 8 rfl Try.underlying76 infoTP rfl (by decide) (by omega) (u12) (gone t (F.take i)) (y) ([.pointer (some ⟨y.b, 0, none⟩)]) (fun _ => True) (fun _ => False) ?aV ?aX ?aP (fun _ hk => hk.elim) (fun _ _ => trivial) ?aO ?aB ?aS ?aL ?_; (case aV => rfl); (case aX => rfl); (case aP => exact rfl); (case aO => exact HBR.out); (case aB => exact ⟨rfl, rfl, rfl, Nat.le_refl _, fun _ _ => rfl⟩); (case aS => exact HBS.out); (case aL => (first | omega | (simp; omega))); intro v2 w2 hR2 hB2 hg2 hat2) | fail)
            have hrg := HB.out.rep.grown hg2 (fun k hk hO => by have := own_ge HB.out.drow k hk; have := HO.out k hO; omega)
            have k456 := hrg.head.map
            have q0' : w2.cell? ⟨y.b, 0, none⟩ = some (.string y.id) := by
              have hym : y ∈ F.drop i := by rw [← HY.out, drop_cons hiF]; exact List.mem_cons_self
              obtain ⟨r1, a1, b1, hc1⟩ := hrg.loose y hym
              exact hc1.c.1
            obtain ⟨es, he, hpe⟩ := hrg.names
            have HE := Aside0.mk (And.intro he hpe)
            have HQ := Aside0.mk (And.intro hR2 (And.intro hg2 hat2))
            clear hrg he hpe hR2 hB2 hg2 hat2 q0 q1 q5 HBR HBS
            go_still_tail 8, (by kernel_rfl)
            go_wp2_with (first | (at_delete; refine wpList_del _ rfl _ _ 71 9 rfl Try.underlying71 Try.underlying9 rfl (HE.out.1.move rfl) y.id rfl ?_; intro w3 hm3 hg3 hz3) | fail)
            go_roundg (F.length - (i + 1))
            case measure => omega
            case rel =>
              refine ⟨i + 1, S2, rfl, by omega, by go_num, ⟨?_⟩⟩
              have hdn := HB.out.done (es := es) (w1 := w2) (w2 := w3) hiF (by rw [HY.out]; exact hty) HO.out (by rw [HY.out]; exact HQ.out.1) HQ.out.2.1 HQ.out.2.2 HE.out.1 HE.out.2 (by rw [HY.out]; exact hm3) ⟨hg3.os, hg3.tape, hg3.output, hg3.size, fun k hk hne => hg3.block k hk hne⟩
              exact hdn
          · have d1 : decide (y.tm ≤ t) = false := by simpa using hty
            have hym : y ∈ F.drop i := by rw [← HY.out, drop_cons hiF]; exact List.mem_cons_self
            have hlen2 : (nodes S2).length ≤ 1000000 := by
              have h1 := HB.out.perm.length_eq
              have h2 := HI.out.perm.length_eq
              have h3 := List.length_filter_le (fun n : Node => decide (t < n.tm)) (F.take i)
              have h4 := List.length_take_le i F
              unfold kept at h1
              simp at h1 h2
              omega
            have hy1 : y.tm ≤ 1099511627776 := by
              have h1 : y ∈ F ++ nodes S' := List.mem_append_left _ (List.mem_of_mem_drop hym)
              have h2 := HI.out.perm.mem_iff.1 h1
              obtain ⟨r3, k3, h3, h4, h5⟩ := mem_nodes.1 h2
              exact (HG.out r3 k3 h3 h4 y h5).2.1
            have hrt := HB.out.rep.tight
            rw [drop_cons hiF, HY.out] at hrt
            have HH := Aside0.mk (hang_calls hrt (by omega) hy1 ht0 ht1 hlen2)
            clear hrt q0 q5
            go_wp2_with fail
            refine (HH.out).mono ?_
            rintro e w3 ⟨rfl, hR3, hO3⟩
            have HQ := Aside0.mk (And.intro hR3 hO3)
            clear hR3 hO3 HH
            go_wp2_with fail
            go_roundg (F.length - (i + 1))
            case measure => omega
            case rel =>
              refine ⟨i + 1, _, rfl, by omega, by go_num, ⟨HB.out.hung hiF (by rw [HY.out]; omega) (by rw [HY.out]; exact hy1) ht0 HO.out rfl rfl ?_ ?_⟩⟩
              · have h := HQ.out.1
                rw [drop_cons hiF, HY.out]
                exact h
              · have h := HQ.out.2
                rw [drop_cons hiF, HY.out]
                exact h
        · obtain rfl : i = F.length := by omega
          have hgl : (gone t F).length ≤ 4096 := by
            have := List.length_filter_le (fun n : Node => decide (n.tm ≤ t)) F
            unfold gone
            omega
          have hB2 := HB.out
          have hdr := hB2.drow
          have hce := hB2.cells
          rw [List.take_length] at hdr hce
          have hnd : ((gone t F).map ent).Nodup := by
            obtain ⟨es, he, hpe⟩ := HREP.out.names
            have h1 := (hpe.map Prod.fst).nodup_iff.1 he.nodup
            have h2 : ((F ++ nodes S').map Node.id).Nodup := by
              refine ((HI.out.perm.map Node.id)).nodup_iff.2 ?_
              rw [List.map_map] at h1
              exact h1
            rw [List.map_append] at h2
            have h3 := (List.nodup_append.1 h2).1
            have h4 : ((gone t F).map Node.id).Nodup := (List.filter_sublist.map _).nodup h3
            have h5 : ((gone t F).map Node.id) = ((gone t F).map ent).map Prod.fst := by rw [List.map_map]; rfl
            rw [h5] at h4
            exact (List.pairwise_map.1 h4).imp (fun h e => h (by rw [e]))
          have hsz := HB.out.only.size
          have HS := Aside0.mk (sort_calls hdr (by omega) hsz (fun n hn => by
            obtain ⟨⟨r0, a0, b0, hc⟩, hOn⟩ := hce n hn
            exact ⟨HO.out _ hOn, hc.c.1, hc.c.2.1⟩) hnd)
          have HCE := Aside0.mk hce
          have HND := Aside0.mk hnd
          clear hB2 hdr hce hnd hsz
          obtain ⟨wo, rfl⟩ : ∃ wo : World, wo = wr := ⟨_, rfl⟩
          go_wp2_with fail
          refine (HS.out).mono ?_
          rintro e w3 ⟨rfl, hR3, hO3⟩
          obtain ⟨A2, c2, hv12, hle2, hC2⟩ := Kd.R_reads hR3
          subst hv12
          have hsl : (sortN (gone t F)).length ≤ 4096 := by rw [(sortN_perm _).length_eq]; exact hgl
          have HR3 := Aside0.mk hR3
          have HO3 := Aside0.mk hO3
          have HCC := Aside0.mk (show ∀ n ∈ sortN (gone t F), n.b < w.heap.size ∧ w3.cell? ⟨n.b, 0, none⟩ = some (.string n.id) from fun n hn => by
            obtain ⟨⟨r0, a0, b0, hc⟩, hOn⟩ := HCE.out n ((sortN_perm _).mem_iff.1 hn)
            have hb := HO.out _ hOn
            refine ⟨hb, ?_⟩
            have : Tcell w3 n r0 a0 b0 := (hO3.block _ hb).trans hc
            exact this.c.1)
          have HW3 := Aside0.mk (Nat.le_trans HB.out.only.size hO3.size)
          clear hR3 hO3 hC2 HS
          generalize hDD : sortN (gone t F) = D at *
          have HDD := Aside0.mk hDD
          clear hDD
          go_wp2_with fail
          go_loopg [15, 126] D.length (fun g v15 v126 wx => ∃ (j : Nat), g = D.length - j ∧ j ≤ D.length ∧ v126 = .int .i64 j ∧ Aside0 (Kd.string.R 9 wx w.heap.size (fun _ => True) v15 ((D.take j).map Node.id)) ∧ Aside0 (kN.R 65 wx w.heap.size (fun _ => True) (.slice A2 D.length c2) D) ∧ Aside0 (Below w.heap.size w3 wx) ∧ Aside0 (∀ k, v15.ownBlock = some k → (Value.slice A2 D.length c2).ownBlock ≠ some k))
          case atStart => exact ⟨0, rfl, by omega, rfl, ⟨Kd.R_nil _ _ _ _ _⟩, HR3, ⟨Below.refl _ _⟩, ⟨fun k hk => by simp [Value.ownBlock] at hk⟩⟩
          case round =>
            obtain ⟨j, rfl, hj, rfl, HR15, HR12, HB3, HAP⟩ := hrel
            by_cases hjD : j < D.length
            · have m0 : (0 : Int) ≤ (j : Int) := by omega
              have m1 : (j : Int) < (D.length : Int) := by omega
              obtain ⟨hn7, hc7, hC7⟩ := Kd.R_reads' HR12.out
              obtain ⟨ad2, hA2, hcell⟩ := at_N hC7 j hjD
              subst hA2
              have hmem : D[j] ∈ D := List.getElem_mem hjD
              have q0 : wr.cell? ⟨D[j].b, 0, none⟩ = some (.string D[j].id) := by
                obtain ⟨h1, h2⟩ := HCC.out _ hmem
                exact (HB3.out.cell (p := ⟨D[j].b, 0, none⟩) h1).trans h2
              have hlj : ((D.take j).map Node.id).length ≤ 4096 := by
                rw [List.length_map]
                have := List.length_take_le j D
                omega
              have HBS := Aside0.mk (Nat.le_trans HW3.out HB3.out.size)
              generalize hy : D[j] = y at hcell q0
              have HY := Aside0.mk hy
              clear hy hC7 hn7 hc7 hmem
              go_wp2_with (first | ((with_reducible refine gate_builtin (b := .append) (xs := #[.tmp 130, .tmp 135]) rfl ?_); at_builtin; refine Kd.R_append Kd.string (w0 := wr) w.heap.size rfl (.tmp 130) (.tmp 135) 29 9 (.string ⟨#[]⟩) 16 rfl Try.underlying29 infoS rfl (by decide) (by omega) (u15) ((D.take j).map Node.id) (y.id) ([.string y.id]) (fun _ => True) (fun _ => False) ?aV ?aX ?aP (fun _ hk => hk.elim) (fun _ _ => trivial) ?aO ?aB ?aS ?aL ?_; (case aV => rfl); (case aX => rfl); (case aP => exact rfl); (case aO => exact HR15.out); (case aB => exact ⟨rfl, rfl, rfl, Nat.le_refl _, fun _ _ => rfl⟩); (case aS => exact HBS.out); (case aL => (first | omega | (simp; omega))); intro v2 w2 hR2 hB2 hg2 hat2) | fail)
              go_roundg (D.length - (j + 1))
              case measure => omega
              case rel =>
                have hv := own_ge HR15.out
                have hap : ∀ k, v2.ownBlock = some k → (Value.slice (some ad2) D.length c2).ownBlock ≠ some k := fun k hk h7 => by
                  rcases hat2 with e | ⟨b, e, hb⟩
                  · exact HAP.out k (e ▸ hk) h7
                  · rw [e] at hk
                    injection hk with hk
                    have := ((Kd.R_bound HR12.out).1 k h7).2.2.1
                    omega
                refine ⟨j + 1, rfl, by omega, by go_num, ⟨?_⟩, ⟨?_⟩, ⟨?_⟩, ⟨hap⟩⟩
                · rw [take_succ hjD, List.map_append]
                  rw [HY.out]
                  exact hR2
                · refine Kd.R_mono (Kd.R_step (ok := fun b => True ∧ some b ≠ u15.ownBlock) ?_ (fun b hb hl => hg2.block b hl hb.2)) (fun _ _ => trivial)
                  obtain ⟨h0, hr⟩ := HR12.out
                  exact ⟨fun k hk => ⟨trivial, fun e => HAP.out k e.symm hk⟩, hr.imp_ (fun x cs hx => hx)⟩
                · exact HB3.out.grown hg2 HBS.out (fun k hk => hv k hk)
            · obtain rfl : j = D.length := by omega
              go_wp2_with fail
              go_ret2
              have hfin := HB.out
              refine ⟨_, D, rfl, ?_, ?_, ?_, ⟨S2, ?_, hfin.good, ?_⟩, ?_⟩
              · have := HR15.out
                rw [List.take_length] at this
                exact this
              · rw [← HDD.out]
                refine (sortN_perm _).trans ?_
                have h1 := HI.out.perm.filter (fun n : Node => decide (n.tm ≤ t))
                rw [List.filter_append] at h1
                have h2 : (nodes S').filter (fun n : Node => decide (n.tm ≤ t)) = [] := by
                  rw [List.filter_eq_nil_iff]
                  intro n hn
                  obtain ⟨r3, k3, h3, h4, h5⟩ := mem_nodes.1 hn
                  have := (outA_good HOA.out HG.out hn0 hnt HMW.out.symm rfl r3 k3 h3 h4 n h5).1
                  simp
                  omega
                rw [h2, List.append_nil] at h1
                exact h1
              · rw [← HDD.out]
                exact sortN_sorted HND.out
              · have h1 := hfin.rep
                rw [List.drop_length] at h1
                refine h1.move (fun b hb hl => ?_)
                have := HO.out b hb
                exact (HB3.out.block b this).trans (HO3.out.block b this)
              · have h1 := hfin.perm
                rw [List.take_length] at h1
                refine h1.trans ?_
                have h2 := HI.out.perm.filter (fun n : Node => decide (t < n.tm))
                rw [List.filter_append] at h2
                have h3 : (nodes S').filter (fun n : Node => decide (t < n.tm)) = nodes S' := by
                  rw [List.filter_eq_self]
                  intro n hn
                  obtain ⟨r3, k3, h3, h4, h5⟩ := mem_nodes.1 hn
                  have := (outA_good HOA.out HG.out hn0 hnt HMW.out.symm rfl r3 k3 h3 h4 n h5).1
                  simpa using this
                rw [h3] at h2
                exact h2
              · have o1 := hfin.only
                have o3 := HO3.out
                have o4 := HB3.out
                exact ⟨o4.os.trans (o3.os.trans o1.os), o4.tape.trans (o3.tape.trans o1.tape), o4.output.trans (o3.output.trans o1.output), Nat.le_trans o1.size (Nat.le_trans o3.size o4.size), fun k hk hn => (o4.block k hk).trans ((o3.block k hk).trans (o1.block k hk hn))⟩
end
end Go.Proofs.Ytaefbibkkkglnaa.Wh
