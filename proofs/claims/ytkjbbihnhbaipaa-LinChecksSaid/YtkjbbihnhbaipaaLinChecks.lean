/- LinChecks: the law's walk. No condition. -/
import Derived.Test.YtkjbbihnhbaipaaLinKept
import Derived.Test.YtkjbbihnhbaipaaPLinChecksx6
import Derived.Deep.DeepCutAuto
import Derived.Deep.RegionHeld3
namespace Go.Proofs.Ytkjbbihnhbaipaa.Ln
open Go.RowKit Go.Proofs.YtkjbbihnhbaipaaW.PrintWords Go.Proofs.YtkjbbihnhbaipaaW.PrintLast Go.Proofs.YtkjbbihnhbaipaaW.PrintMore Go.Proofs.Ytkjbbihnhbaipaa.Mk Go.Proofs.Ytkjbbihnhbaipaa.PLinChecks
set_option linter.unusedVariables false
set_option linter.unusedSimpArgs false

theorem load_op {w : World} {A : Option Addr} {l : List S35} (h : Kd.C k35 w A l.length l) (i : Nat) (hi : i < l.length) : ∃ ad A2 c2 A9 c9, A = some ad ∧ (∀ w1, Below w.heap.size w w1 → w1.cell? (ad.add (i * 14)) = some (.string (l.getD i z35).f0.f0) ∧ w1.cell? ⟨(ad.add (i * 14)).block, (ad.add (i * 14)).off + 1, none⟩ = some (.int .i64 (l.getD i z35).f0.f1) ∧ w1.cell? ⟨(ad.add (i * 14)).block, (ad.add (i * 14)).off + 2, none⟩ = some (.slice A2 (l.getD i z35).f0.f2.length c2) ∧ w1.cell? ⟨(ad.add (i * 14)).block, (ad.add (i * 14)).off + 3, none⟩ = some (.string (l.getD i z35).f0.f3) ∧ w1.cell? ⟨(ad.add (i * 14)).block, (ad.add (i * 14)).off + 4, none⟩ = some (.int .i64 (l.getD i z35).f0.f4) ∧ w1.cell? ⟨(ad.add (i * 14)).block, (ad.add (i * 14)).off + 5, none⟩ = some (.int .i64 (l.getD i z35).f0.f5) ∧ w1.cell? ⟨(ad.add (i * 14)).block, (ad.add (i * 14)).off + 6, none⟩ = some (.string (l.getD i z35).f1.f0) ∧ w1.cell? ⟨(ad.add (i * 14)).block, (ad.add (i * 14)).off + 7, none⟩ = some (.int .i64 (l.getD i z35).f1.f1) ∧ w1.cell? ⟨(ad.add (i * 14)).block, (ad.add (i * 14)).off + 8, none⟩ = some (.int .i64 (l.getD i z35).f1.f2) ∧ w1.cell? ⟨(ad.add (i * 14)).block, (ad.add (i * 14)).off + 9, none⟩ = some (.slice A9 (l.getD i z35).f1.f3.length c9) ∧ w1.cell? ⟨(ad.add (i * 14)).block, (ad.add (i * 14)).off + 10, none⟩ = some (.int .i64 (l.getD i z35).f1.f4) ∧ w1.cell? ⟨(ad.add (i * 14)).block, (ad.add (i * 14)).off + 11, none⟩ = some (.int .i64 (l.getD i z35).f2) ∧ w1.cell? ⟨(ad.add (i * 14)).block, (ad.add (i * 14)).off + 12, none⟩ = some (.int .i64 (l.getD i z35).f3) ∧ w1.cell? ⟨(ad.add (i * 14)).block, (ad.add (i * 14)).off + 13, none⟩ = some (.bool (l.getD i z35).f4)) ∧ (l.getD i z35).f0.f2.length ≤ c2 ∧ k40.C w A2 (l.getD i z35).f0.f2.length (l.getD i z35).f0.f2 ∧ (l.getD i z35).f1.f3.length ≤ c9 ∧ k42.C w A9 (l.getD i z35).f1.f3.length (l.getD i z35).f1.f3 := by
  have hu35 := Try.underlying35
  have hu30 := Try.underlying30
  have hu33 := Try.underlying33
  obtain ⟨ad, A2, c2, A9, c9, eA, h0, h1, h2, h3, h4, h5, h6, h7, h8, h9, h10, h11, h12, h13, l2, g2, l9, g9⟩ := at_T35 h (i : Int) (by omega) (by omega)
  rw [Int.toNat_natCast] at *
  rw [show rd_T35 l (i : Int) = l.getD i z35 from rfl] at *
  refine ⟨ad, A2, c2, A9, c9, eA, ?_, l2, g2, l9, g9⟩
  intro w1 hb
  exact ⟨pw_cell_below hb h0, pw_cell_below hb h1, pw_cell_below hb h2, pw_cell_below hb h3, pw_cell_below hb h4, pw_cell_below hb h5, pw_cell_below hb h6, pw_cell_below hb h7, pw_cell_below hb h8, pw_cell_below hb h9, pw_cell_below hb h10, pw_cell_below hb h11, pw_cell_below hb h12, pw_cell_below hb h13⟩

set_option maxRecDepth 100000 in
set_option maxHeartbeats 8000000 in
theorem checks_true (A : Option Addr) (c : Nat) (l : List S35) (w : World) (hr : Kd.C k35 w A l.length l) (hc : l.length ≤ c) (hg : ∀ y ∈ l, y.f0.f2.length * 24 ≤ 140737488351232 ∧ y.f1.f3.length * 32 ≤ 140737488351232) (hg2 : l.length * 168 ≤ 140737488351232) :
    Calls Try.prog 3 #[.slice A l.length c] w fun e w' => e = .returned (.bool true) ∧ Below w.heap.size w w' := by
  have HR := Aside0.mk hr
  have HC := Aside0.mk hc
  have HG := Aside0.mk hg
  clear hr hc hg
  have hl : l.length ≤ 1125899906842624 := by omega
  have HK := Aside0.mk (checks l hl)
  have hu35 := Try.underlying35
  obtain ⟨kk, r1, r2, HK1, HK2⟩ : ∃ k r1 r2, Aside0 (lin_Check.f k l = some (r1, r2)) ∧ Aside0 (larderref16_Check.f k l = some (r1, r2)) := by obtain ⟨k, r1, r2, h1, h2⟩ := HK.out; exact ⟨k, r1, r2, ⟨h1⟩, ⟨h2⟩⟩
  go_enter Try.func3, Try.ntmps3
  go_wp2_with (first | ((with_reducible refine gate_callee (f := 6) rfl ?_); refine goesL_ (some 11) rfl rfl Try.func6 (by kernel_rfl) rfl #[.slice A l.length c] rfl (by (try simp only [List.map_toArray, List.map_cons, List.map_nil]); first | done | rfl) ?_; (with_reducible refine (twin_calls A c l _ HR.out HC.out HG.out hg2).mono ?_); rintro e w1 ⟨A', c', rfl, hT, hb⟩; refine ⟨_, rfl, ?_⟩; have B1 := Aside0.mk hb; have hc' := hT.1; have HTW := Aside0.mk hT; clear hb hT) | ((with_reducible refine gate_callee (f := 7) rfl ?_); refine goesL_ (some 14) rfl rfl Try.func7 (by kernel_rfl) rfl #[.slice A' l.length c'] rfl (by (try simp only [List.map_toArray, List.map_cons, List.map_nil]); first | done | rfl) ?_; (with_reducible refine (lin_Check.calls kk _ _ l r1 r2 _ HTW.out.plain (by omega) HK1.out).mono ?_); rintro e w2 ⟨rfl, hb⟩; refine ⟨_, rfl, ?_⟩; have B2 := Aside0.mk hb; have BA := Aside0.mk (below_step B1.out hb); clear hb) | ((with_reducible refine gate_callee (f := 8) rfl ?_); refine goesL_ (some 19) rfl rfl Try.func8 (by kernel_rfl) rfl #[.slice A l.length c] rfl (by (try simp only [List.map_toArray, List.map_cons, List.map_nil]); first | done | rfl) ?_; (with_reducible refine (larderref16_Check.calls kk _ _ l r1 r2 _ (Kd.C_below HR.out BA.out) HC.out HK2.out).mono ?_); rintro e w3 ⟨rfl, hb⟩; refine ⟨_, rfl, ?_⟩; have B3 := Aside0.mk (below_step B2.out hb); have BB := Aside0.mk (below_step BA.out hb); clear BA B2 hb))
  go_loopw [8, 9] (fun v8 v9 wr => ∃ i : Nat, i ≤ l.length ∧ i ≤ 10 ∧ v8 = .int .i64 i ∧ Aside0 (Below w1.heap.size w1 wr)) (fun v8 _ _ => l.length - (intOf v8).toNat)
  case atStart => exact ⟨0, Nat.zero_le _, Nat.zero_le _, rfl, B3⟩
  case round =>
    obtain ⟨i, hi, hi10, rfl, BI⟩ := hrel
    by_cases hlt : i < l.length
    · by_cases hlt10 : i < 10
      · have di : decide ((i : Int) < 10) = true := decide_eq_true (by omega)
        go_wp2_with fail
        go_loopw [9] (fun v9 wr => ∃ k : Nat, k ≤ l.length ∧ k ≤ 10 ∧ v9 = .int .i64 k ∧ Aside0 (Below w1.heap.size w1 wr)) (fun v9 _ => l.length - (intOf v9).toNat)
        case atStart => exact ⟨0, Nat.zero_le _, Nat.zero_le _, rfl, BI⟩
        case round =>
          clear BI
          obtain ⟨k, hk, hk10, rfl, BI⟩ := hrel
          by_cases hkl : k < l.length
          · by_cases hkl10 : k < 10
            · have dk : decide ((k : Int) < 10) = true := decide_eq_true (by omega)
              go_wp2_with fail
              obtain ⟨adp, A2p, c2p, A9p, c9p, ep, ldp, l2p, g2p, l9p, g9p⟩ := load_op HTW.out.plain i hlt
              have L2p := Aside0.mk l2p
              have L9p := Aside0.mk l9p
              have G2p := Aside0.mk g2p
              have G9p := Aside0.mk g9p
              have LP := Aside0.mk ldp
              clear l2p l9p g2p g9p ldp
              obtain ⟨adq, A2q, c2q, A9q, c9q, eq, ldq, l2q, g2q, l9q, g9q⟩ := load_op HTW.out.plain k hkl
              have L2q := Aside0.mk l2q
              have L9q := Aside0.mk l9q
              have G2q := Aside0.mk g2q
              have G9q := Aside0.mk g9q
              have LQ := Aside0.mk ldq
              clear l2q l9q g2q g9q ldq
              obtain ⟨adr, A2r, c2r, A9r, c9r, er, ldr, l2r, g2r, l9r, g9r⟩ := load_op (Kd.C_below HR.out B1.out) i hlt
              have L2r := Aside0.mk l2r
              have L9r := Aside0.mk l9r
              have G2r := Aside0.mk g2r
              have G9r := Aside0.mk g9r
              have LR := Aside0.mk ldr
              clear l2r l9r g2r g9r ldr
              obtain ⟨ads, A2s, c2s, A9s, c9s, es, lds, l2s, g2s, l9s, g9s⟩ := load_op (Kd.C_below HR.out B1.out) k hkl
              have L2s := Aside0.mk l2s
              have L9s := Aside0.mk l9s
              have G2s := Aside0.mk g2s
              have G9s := Aside0.mk g9s
              have LS := Aside0.mk lds
              clear l2s l9s g2s g9s lds
              cases ep
              obtain rfl : adq = adp := by injection eq with eq; exact eq.symm
              cases er
              obtain rfl : ads = adr := by injection es with es; exact es.symm
              generalize l.getD i z35 = y at *
              generalize l.getD k z35 = z at *
              have BC := BI
              obtain ⟨sp0, sp1, sp2, sp3, sp4, sp5, sp6, sp7, sp8, sp9, sp10, sp11, sp12, sp13⟩ := LP.out _ BC.out
              obtain ⟨sq0, sq1, sq2, sq3, sq4, sq5, sq6, sq7, sq8, sq9, sq10, sq11, sq12, sq13⟩ := LQ.out _ BC.out
              obtain ⟨sr0, sr1, sr2, sr3, sr4, sr5, sr6, sr7, sr8, sr9, sr10, sr11, sr12, sr13⟩ := LR.out _ BC.out
              obtain ⟨ss0, ss1, ss2, ss3, ss4, ss5, ss6, ss7, ss8, ss9, ss10, ss11, ss12, ss13⟩ := LS.out _ BC.out
              go_region_held3 (fun w' => w'.cell? (adq.add (i * 14)) = some (.string y.f0.f0) ∧ w'.cell? ⟨(adq.add (i * 14)).block, (adq.add (i * 14)).off + 1, none⟩ = some (.int .i64 y.f0.f1) ∧ w'.cell? ⟨(adq.add (i * 14)).block, (adq.add (i * 14)).off + 2, none⟩ = some (.slice A2p y.f0.f2.length c2p) ∧ w'.cell? ⟨(adq.add (i * 14)).block, (adq.add (i * 14)).off + 3, none⟩ = some (.string y.f0.f3) ∧ w'.cell? ⟨(adq.add (i * 14)).block, (adq.add (i * 14)).off + 4, none⟩ = some (.int .i64 y.f0.f4) ∧ w'.cell? ⟨(adq.add (i * 14)).block, (adq.add (i * 14)).off + 5, none⟩ = some (.int .i64 y.f0.f5) ∧ w'.cell? ⟨(adq.add (i * 14)).block, (adq.add (i * 14)).off + 6, none⟩ = some (.string y.f1.f0) ∧ w'.cell? ⟨(adq.add (i * 14)).block, (adq.add (i * 14)).off + 7, none⟩ = some (.int .i64 y.f1.f1) ∧ w'.cell? ⟨(adq.add (i * 14)).block, (adq.add (i * 14)).off + 8, none⟩ = some (.int .i64 y.f1.f2) ∧ w'.cell? ⟨(adq.add (i * 14)).block, (adq.add (i * 14)).off + 9, none⟩ = some (.slice A9p y.f1.f3.length c9p) ∧ w'.cell? ⟨(adq.add (i * 14)).block, (adq.add (i * 14)).off + 10, none⟩ = some (.int .i64 y.f1.f4) ∧ w'.cell? ⟨(adq.add (i * 14)).block, (adq.add (i * 14)).off + 11, none⟩ = some (.int .i64 y.f2) ∧ w'.cell? ⟨(adq.add (i * 14)).block, (adq.add (i * 14)).off + 12, none⟩ = some (.int .i64 y.f3) ∧ w'.cell? ⟨(adq.add (i * 14)).block, (adq.add (i * 14)).off + 13, none⟩ = some (.bool y.f4) ∧ w'.cell? (adq.add (k * 14)) = some (.string z.f0.f0) ∧ w'.cell? ⟨(adq.add (k * 14)).block, (adq.add (k * 14)).off + 1, none⟩ = some (.int .i64 z.f0.f1) ∧ w'.cell? ⟨(adq.add (k * 14)).block, (adq.add (k * 14)).off + 2, none⟩ = some (.slice A2q z.f0.f2.length c2q) ∧ w'.cell? ⟨(adq.add (k * 14)).block, (adq.add (k * 14)).off + 3, none⟩ = some (.string z.f0.f3) ∧ w'.cell? ⟨(adq.add (k * 14)).block, (adq.add (k * 14)).off + 4, none⟩ = some (.int .i64 z.f0.f4) ∧ w'.cell? ⟨(adq.add (k * 14)).block, (adq.add (k * 14)).off + 5, none⟩ = some (.int .i64 z.f0.f5) ∧ w'.cell? ⟨(adq.add (k * 14)).block, (adq.add (k * 14)).off + 6, none⟩ = some (.string z.f1.f0) ∧ w'.cell? ⟨(adq.add (k * 14)).block, (adq.add (k * 14)).off + 7, none⟩ = some (.int .i64 z.f1.f1) ∧ w'.cell? ⟨(adq.add (k * 14)).block, (adq.add (k * 14)).off + 8, none⟩ = some (.int .i64 z.f1.f2) ∧ w'.cell? ⟨(adq.add (k * 14)).block, (adq.add (k * 14)).off + 9, none⟩ = some (.slice A9q z.f1.f3.length c9q) ∧ w'.cell? ⟨(adq.add (k * 14)).block, (adq.add (k * 14)).off + 10, none⟩ = some (.int .i64 z.f1.f4) ∧ w'.cell? ⟨(adq.add (k * 14)).block, (adq.add (k * 14)).off + 11, none⟩ = some (.int .i64 z.f2) ∧ w'.cell? ⟨(adq.add (k * 14)).block, (adq.add (k * 14)).off + 12, none⟩ = some (.int .i64 z.f3) ∧ w'.cell? ⟨(adq.add (k * 14)).block, (adq.add (k * 14)).off + 13, none⟩ = some (.bool z.f4) ∧ w'.cell? (ads.add (i * 14)) = some (.string y.f0.f0) ∧ w'.cell? ⟨(ads.add (i * 14)).block, (ads.add (i * 14)).off + 1, none⟩ = some (.int .i64 y.f0.f1) ∧ w'.cell? ⟨(ads.add (i * 14)).block, (ads.add (i * 14)).off + 2, none⟩ = some (.slice A2r y.f0.f2.length c2r) ∧ w'.cell? ⟨(ads.add (i * 14)).block, (ads.add (i * 14)).off + 3, none⟩ = some (.string y.f0.f3) ∧ w'.cell? ⟨(ads.add (i * 14)).block, (ads.add (i * 14)).off + 4, none⟩ = some (.int .i64 y.f0.f4) ∧ w'.cell? ⟨(ads.add (i * 14)).block, (ads.add (i * 14)).off + 5, none⟩ = some (.int .i64 y.f0.f5) ∧ w'.cell? ⟨(ads.add (i * 14)).block, (ads.add (i * 14)).off + 6, none⟩ = some (.string y.f1.f0) ∧ w'.cell? ⟨(ads.add (i * 14)).block, (ads.add (i * 14)).off + 7, none⟩ = some (.int .i64 y.f1.f1) ∧ w'.cell? ⟨(ads.add (i * 14)).block, (ads.add (i * 14)).off + 8, none⟩ = some (.int .i64 y.f1.f2) ∧ w'.cell? ⟨(ads.add (i * 14)).block, (ads.add (i * 14)).off + 9, none⟩ = some (.slice A9r y.f1.f3.length c9r) ∧ w'.cell? ⟨(ads.add (i * 14)).block, (ads.add (i * 14)).off + 10, none⟩ = some (.int .i64 y.f1.f4) ∧ w'.cell? ⟨(ads.add (i * 14)).block, (ads.add (i * 14)).off + 11, none⟩ = some (.int .i64 y.f2) ∧ w'.cell? ⟨(ads.add (i * 14)).block, (ads.add (i * 14)).off + 12, none⟩ = some (.int .i64 y.f3) ∧ w'.cell? ⟨(ads.add (i * 14)).block, (ads.add (i * 14)).off + 13, none⟩ = some (.bool y.f4) ∧ w'.cell? (ads.add (k * 14)) = some (.string z.f0.f0) ∧ w'.cell? ⟨(ads.add (k * 14)).block, (ads.add (k * 14)).off + 1, none⟩ = some (.int .i64 z.f0.f1) ∧ w'.cell? ⟨(ads.add (k * 14)).block, (ads.add (k * 14)).off + 2, none⟩ = some (.slice A2s z.f0.f2.length c2s) ∧ w'.cell? ⟨(ads.add (k * 14)).block, (ads.add (k * 14)).off + 3, none⟩ = some (.string z.f0.f3) ∧ w'.cell? ⟨(ads.add (k * 14)).block, (ads.add (k * 14)).off + 4, none⟩ = some (.int .i64 z.f0.f4) ∧ w'.cell? ⟨(ads.add (k * 14)).block, (ads.add (k * 14)).off + 5, none⟩ = some (.int .i64 z.f0.f5) ∧ w'.cell? ⟨(ads.add (k * 14)).block, (ads.add (k * 14)).off + 6, none⟩ = some (.string z.f1.f0) ∧ w'.cell? ⟨(ads.add (k * 14)).block, (ads.add (k * 14)).off + 7, none⟩ = some (.int .i64 z.f1.f1) ∧ w'.cell? ⟨(ads.add (k * 14)).block, (ads.add (k * 14)).off + 8, none⟩ = some (.int .i64 z.f1.f2) ∧ w'.cell? ⟨(ads.add (k * 14)).block, (ads.add (k * 14)).off + 9, none⟩ = some (.slice A9s z.f1.f3.length c9s) ∧ w'.cell? ⟨(ads.add (k * 14)).block, (ads.add (k * 14)).off + 10, none⟩ = some (.int .i64 z.f1.f4) ∧ w'.cell? ⟨(ads.add (k * 14)).block, (ads.add (k * 14)).off + 11, none⟩ = some (.int .i64 z.f2) ∧ w'.cell? ⟨(ads.add (k * 14)).block, (ads.add (k * 14)).off + 12, none⟩ = some (.int .i64 z.f3) ∧ w'.cell? ⟨(ads.add (k * 14)).block, (ads.add (k * 14)).off + 13, none⟩ = some (.bool z.f4)) (go_keep) (first | (go_at_call 9; refine (lin_Ahead.calls y.f0.f0 y.f0.f1 A2p c2p y.f0.f2 y.f0.f3 y.f0.f4 y.f0.f5 y.f1.f0 y.f1.f1 y.f1.f2 A9p c9p y.f1.f3 y.f1.f4 y.f2 y.f3 y.f4 z.f0.f0 z.f0.f1 A2q c2q z.f0.f2 z.f0.f3 z.f0.f4 z.f0.f5 z.f1.f0 z.f1.f1 z.f1.f2 A9q c9q z.f1.f3 z.f1.f4 z.f2 z.f3 z.f4 (decide (y.f3 < z.f2)) _ (Kd.C_below G2p.out (by repeat (first | (with_reducible first | exact BC.out | apply below_alloc | apply pw_below_drewN | apply below_drew1) | exact BC.out))) L2p.out (Kd.C_below G9p.out (by repeat (first | (with_reducible first | exact BC.out | apply below_alloc | apply pw_below_drewN | apply below_drew1) | exact BC.out))) L9p.out (Kd.C_below G2q.out (by repeat (first | (with_reducible first | exact BC.out | apply below_alloc | apply pw_below_drewN | apply below_drew1) | exact BC.out))) L2q.out (Kd.C_below G9q.out (by repeat (first | (with_reducible first | exact BC.out | apply below_alloc | apply pw_below_drewN | apply below_drew1) | exact BC.out))) L9q.out rfl).mono ?_; rintro e w7 ⟨rfl, hb⟩; have BN := Aside0.mk (below_step (by repeat (first | (with_reducible first | exact BC.out | apply below_alloc | apply pw_below_drewN | apply below_drew1) | exact BC.out)) hb); clear BC hb; have BC := BN; clear BN; obtain ⟨sp0, sp1, sp2, sp3, sp4, sp5, sp6, sp7, sp8, sp9, sp10, sp11, sp12, sp13⟩ := LP.out _ BC.out; obtain ⟨sq0, sq1, sq2, sq3, sq4, sq5, sq6, sq7, sq8, sq9, sq10, sq11, sq12, sq13⟩ := LQ.out _ BC.out; obtain ⟨sr0, sr1, sr2, sr3, sr4, sr5, sr6, sr7, sr8, sr9, sr10, sr11, sr12, sr13⟩ := LR.out _ BC.out; obtain ⟨ss0, ss1, ss2, ss3, ss4, ss5, ss6, ss7, ss8, ss9, ss10, ss11, ss12, ss13⟩ := LS.out _ BC.out) | (go_at_call 10; refine (larderref16_Ahead.calls y.f0.f0 y.f0.f1 A2r c2r y.f0.f2 y.f0.f3 y.f0.f4 y.f0.f5 y.f1.f0 y.f1.f1 y.f1.f2 A9r c9r y.f1.f3 y.f1.f4 y.f2 y.f3 y.f4 z.f0.f0 z.f0.f1 A2s c2s z.f0.f2 z.f0.f3 z.f0.f4 z.f0.f5 z.f1.f0 z.f1.f1 z.f1.f2 A9s c9s z.f1.f3 z.f1.f4 z.f2 z.f3 z.f4 (decide (y.f3 < z.f2)) _ (Kd.C_below G2r.out (by repeat (first | (with_reducible first | exact BC.out | apply below_alloc | apply pw_below_drewN | apply below_drew1) | exact BC.out))) L2r.out (Kd.C_below G9r.out (by repeat (first | (with_reducible first | exact BC.out | apply below_alloc | apply pw_below_drewN | apply below_drew1) | exact BC.out))) L9r.out (Kd.C_below G2s.out (by repeat (first | (with_reducible first | exact BC.out | apply below_alloc | apply pw_below_drewN | apply below_drew1) | exact BC.out))) L2s.out (Kd.C_below G9s.out (by repeat (first | (with_reducible first | exact BC.out | apply below_alloc | apply pw_below_drewN | apply below_drew1) | exact BC.out))) L9s.out rfl).mono ?_; rintro e w8 ⟨rfl, hb⟩; have BN := Aside0.mk (below_step (by repeat (first | (with_reducible first | exact BC.out | apply below_alloc | apply pw_below_drewN | apply below_drew1) | exact BC.out)) hb); clear BC hb; have BC := BN; clear BN; obtain ⟨sp0, sp1, sp2, sp3, sp4, sp5, sp6, sp7, sp8, sp9, sp10, sp11, sp12, sp13⟩ := LP.out _ BC.out; obtain ⟨sq0, sq1, sq2, sq3, sq4, sq5, sq6, sq7, sq8, sq9, sq10, sq11, sq12, sq13⟩ := LQ.out _ BC.out; obtain ⟨sr0, sr1, sr2, sr3, sr4, sr5, sr6, sr7, sr8, sr9, sr10, sr11, sr12, sr13⟩ := LR.out _ BC.out; obtain ⟨ss0, ss1, ss2, ss3, ss4, ss5, ss6, ss7, ss8, ss9, ss10, ss11, ss12, ss13⟩ := LS.out _ BC.out))
              clear sp0 sp1 sp2 sp3 sp4 sp5 sp6 sp7 sp8 sp9 sp10 sp11 sp12 sp13 sq0 sq1 sq2 sq3 sq4 sq5 sq6 sq7 sq8 sq9 sq10 sq11 sq12 sq13 sr0 sr1 sr2 sr3 sr4 sr5 sr6 sr7 sr8 sr9 sr10 sr11 sr12 sr13 ss0 ss1 ss2 ss3 ss4 ss5 ss6 ss7 ss8 ss9 ss10 ss11 ss12 ss13
              go_wp2_with fail
              go_roundw
              case rel => exact ⟨k + 1, by omega, by omega, by go_num, BC⟩
              case measure => simp [intOf]; omega
            · obtain rfl : k = 10 := by omega
              go_wp2_with fail
              go_roundw
              case rel => exact ⟨i + 1, by omega, by omega, by go_num, BI⟩
              case measure => simp [intOf]; omega
          · obtain rfl : k = l.length := by omega
            go_wp2_with fail
            go_roundw
            case rel => exact ⟨i + 1, by omega, by omega, by go_num, BI⟩
            case measure => simp [intOf]; omega
      · obtain rfl : i = 10 := by omega
        go_wp2_with (first | ((with_reducible refine gate_callee (f := 11) rfl ?_); refine goesL_ (some 71) rfl rfl Try.func11 (by kernel_rfl) rfl #[.slice A' l.length c', .slice A l.length c] rfl (by (try simp only [List.map_toArray, List.map_cons, List.map_nil]); first | done | rfl) ?_; (with_reducible refine (kept_calls A' c' A c l _ (HTW.out.below BI.out) (Kd.C_below HR.out (below_step B1.out BI.out)) HC.out HG.out hl).mono ?_); rintro e w9 ⟨rfl, hb⟩; refine ⟨_, rfl, ?_⟩; have B9 := Aside0.mk (below_step (below_step B1.out BI.out) hb); clear hb))
        go_ret
        exact ⟨rfl, B9.out⟩
    · obtain rfl : i = l.length := by omega
      go_wp2_with (first | ((with_reducible refine gate_callee (f := 11) rfl ?_); refine goesL_ (some 71) rfl rfl Try.func11 (by kernel_rfl) rfl #[.slice A' l.length c', .slice A l.length c] rfl (by (try simp only [List.map_toArray, List.map_cons, List.map_nil]); first | done | rfl) ?_; (with_reducible refine (kept_calls A' c' A c l _ (HTW.out.below BI.out) (Kd.C_below HR.out (below_step B1.out BI.out)) HC.out HG.out hl).mono ?_); rintro e w9 ⟨rfl, hb⟩; refine ⟨_, rfl, ?_⟩; have B9 := Aside0.mk (below_step (below_step B1.out BI.out) hb); clear hb))
      go_ret
      exact ⟨rfl, B9.out⟩
end Go.Proofs.Ytkjbbihnhbaipaa.Ln
