/- PlanWhole: the contract of the law. No condition. -/
import Derived.Test.YtoopoecopahcbaaPlReck6
import Derived.Test.YtoopoecopahcbaaFl7
import Derived.Deep.CutBlock
namespace Go.Proofs.Ytoopoecopahcbaa.Fl
open Go Go.RowKit Ieee Go.Proofs.YtoopoecopahcbaaW.PrintWords Go.Proofs.YtoopoecopahcbaaW.PrintLast Go.Proofs.YtoopoecopahcbaaW.PrintMore
set_option linter.unusedVariables false
set_option linter.unusedSimpArgs false
theorem unary_neg_fl (k : FloatKind) (b : Nat) : Op.unary .neg (.float k b) = pure (.float k (Op.negFloat k b)) := rfl
attribute [local go_sem] run_store_fl run_store_cx unary_neg_fl

theorem infoI : (Try.prog.info? 3).map (fun i => (i.zero, i.size, i.bytes)) = some (some (.int .i64 0), 1, 8) := by kernel_rfl
theorem blk_under {W w1 : World} {g : Nat} {o : Obj} (hb : Below W.heap.size W w1) (h : W.heap[g]? = some o) : w1.heap[g]? = some o := (hb.block g (blk_lt h)).trans h
theorem at_u8 {w : World} {A : Option Addr} {xs : List Int} (h : Kd.C (Kd.int .u8) w A xs.length xs) (i : Nat) (hi : i < xs.length) : ∃ ad, A = some ad ∧ w.cell? (ad.add i) = some (.int .u8 xs[i]) := by
  obtain ⟨ad, c, e, hl, hK, hc⟩ := Kd.C_get h (0 : Int) (i : Int) (by omega) (by omega)
  rw [Int.toNat_natCast] at *
  rw [show xs.getD i 0 = xs[i] by rw [List.getD_eq_getElem?_getD, List.getElem?_eq_getElem hi]; rfl] at hK
  have hK' : c = [.int .u8 xs[i]] := hK
  subst hK'
  refine ⟨ad, e, ?_⟩
  have := hc 0 _ rfl
  rw [show i * (Kd.int .u8).sz + 0 = i from by show i * 1 + 0 = i; omega] at this
  exact this
theorem R_fresh1 (w : World) (x : Int) (t : TypeId) : (Kd.int .i64).R t (w.alloc (.cells #[.int .i64 x] t (0, 0))) w.heap.size (fun _ => True) (.slice (some ⟨w.heap.size, 0, none⟩) 1 1) [x] :=
  Kd.R_of_own (enc := Value.int .i64) ⟨rfl, .inr ⟨w.heap.size, 1, #[.int .i64 x], rfl, Nat.le_refl _, heap_alloc_new _ _, Nat.le_refl _, by decide, rfl, rfl⟩⟩ (fun _ _ => trivial)
/-- What the law asks of a history's answers, over words that are letters. -/
structure Words (zs : List Int) (sm : List Nat) (fs fx fy fz nx ny nz gs nn : Nat) : Prop where
  hs : F (sumI zs zs.length) = fs
  sm1 : smoothR zs one = (sm, 0)
  q1 : quV zs = .tuple #[.agg #[.complex .f64 fs 0, .complex .f64 fx fy, .complex .f64 fz 0, .complex .f64 fx ny], .int .i64 0]
  q2 : quV (0 :: zs) = .tuple #[.agg #[.complex .f64 gs 0, .complex .f64 fy nx, .complex .f64 nz 0, .complex .f64 fy nn], .int .i64 0]
  es : (FloatKind.f64.format.order fs fs != some .eq) = false
  ex : (FloatKind.f64.format.order fx fx != some .eq) = false
  ey : (FloatKind.f64.format.order fy fy != some .eq) = false
  e0 : (FloatKind.f64.format.order 0 0 != some .eq) = false
  ps : FloatKind.f64.format.order fs fs = some .eq
  p0 : FloatKind.f64.format.order 0 0 = some .eq
  my : (FloatKind.f64.format.order ny (Op.negFloat .f64 fy) != some .eq) = false
  mx : (FloatKind.f64.format.order nx (Op.negFloat .f64 fx) != some .eq) = false
  mz : (FloatKind.f64.format.order nz (Op.negFloat .f64 fz) != some .eq) = false
  at_ : ∀ j, (hz : j < zs.length) → ∃ y, sm[j]? = some y ∧ (FloatKind.f64.format.order y (floatOfInt .f64 zs[j]) != some .eq) = false
  len : sm.length = zs.length
theorem words_of {zs : List Int} (hl : zs.length ≤ 500) (hz : ∀ z ∈ zs, 0 ≤ z ∧ z ≤ 255) : ∃ sm fs fx fy fz nx ny nz gs nn, Words zs sm fs fx fy fz nx ny nz gs nn := by
  have hf : faultF zs = 0 := fault_ok (by omega) (fun z h => by have := hz z h; omega)
  have hf' : faultF (0 :: zs) = 0 := fault_ok (by rw [List.length_cons]; omega) (fun z h => by
    rcases List.mem_cons.1 h with rfl | h
    · omega
    · have := hz z h; omega)
  refine ⟨smF zs one zs.length, _, F (qX zs), F (qY zs), F (qZ zs), F (-qX zs), F (-qY zs), F (-qZ zs), F (sumI (0 :: zs) (0 :: zs).length), F (-(-qX zs)), rfl, smoothR_good hf one_ok, quV_whole hf, ?_, eq_ok (fI_ok _), eq_ok (fI_ok _), eq_ok (fI_ok _), by decide +kernel, by rw [order_fmt, order_self, if_neg (by rw [show (D.read (F (sumI zs zs.length))).isNaN = false from fI_ok _]; decide)], by decide +kernel, neg_same _, neg_same _, neg_same _, fun j h => ?_, smF_len _ _ _⟩
  · have := quV_whole hf'
    rw [moved_qX, moved_qY, moved_qZ] at this
    exact this
  · obtain ⟨y, e, p, v⟩ := smooth_one hf j h
    refine ⟨y, e, ?_⟩
    obtain ⟨a, b⟩ := hz zs[j] (List.getElem_mem _)
    obtain ⟨n, hn⟩ := Int.eq_ofNat_of_zero_le a
    rw [hn] at v ⊢
    rw [Int.toNat_natCast] at v
    exact rz_same (by omega) p v
structure Same (zs : List Int) (c : Int) (tm : List Nat) (fc : Nat) : Prop where
  hc : F c = fc
  st : statsV zs = .tuple #[.float .f64 fc, .float .f64 0, .int .i64 0]
  sm : smoothR zs half = (tm, 0)
  ec : (FloatKind.f64.format.order fc fc != some .eq) = false
  e0 : (FloatKind.f64.format.order 0 0 != some .eq) = false
  at_ : ∀ j, j < zs.length → ∃ y, tm[j]? = some y ∧ (FloatKind.f64.format.order y fc != some .eq) = false
  len : tm.length = zs.length
theorem same_of {c : Int} {n : Nat} (h0 : 0 ≤ c) (h1 : c ≤ 255) (hn : 1 ≤ n) (hn2 : n ≤ 256) : ∃ tm fc, Same (List.replicate n c) c tm fc := by
  obtain ⟨k, rfl⟩ := Int.eq_ofNat_of_zero_le h0
  have hf : faultF (List.replicate n (k : Int)) = 0 := fault_ok (by rw [List.length_replicate]; omega) (fun z h => by
    rw [List.mem_replicate] at h
    obtain ⟨_, rfl⟩ := h
    omega)
  refine ⟨smF (List.replicate n (k : Int)) half n, F (k : Int), rfl, ?_, ?_, eq_ok (fI_ok _), by decide +kernel, fun j h => ?_, by rw [smF_len, List.length_replicate]⟩
  · rw [statsV_good hf (by intro h; have := congrArg List.length h; rw [List.length_replicate] at this; simp at this; omega), rep_mean hn hn2 (by omega), rep_dev hn hn2 (by omega), ← floatOfInt_nat]
  · rw [smoothR_good hf half_ok, List.length_replicate]
  · rw [List.length_replicate] at h
    obtain ⟨y, e, p, v⟩ := smooth_half (c := k) (by omega) (by omega) j h
    exact ⟨y, e, rz_same (by omega) p v⟩
theorem sum_bound {zs : List Int} (h : ∀ z ∈ zs, 0 ≤ z ∧ z ≤ 255) : ∀ k, k ≤ zs.length → 0 ≤ sumI zs k ∧ sumI zs k ≤ (k : Int) * 255
  | 0, _ => by unfold sumI; simp
  | k + 1, hk => by
    obtain ⟨a, b⟩ := sum_bound h k (by omega)
    obtain ⟨c, d⟩ := h zs[k] (List.getElem_mem _)
    rw [sumI_succ (by omega)]
    omega
set_option maxRecDepth 100000 in
set_option maxHeartbeats 16000000 in
theorem whole_true (A : Option Addr) (cA : Nat) (hs : List Int) (c n : Int) (w : World) (ha : Kd.C (Kd.int .u8) w A hs.length hs) (hcA : hs.length ≤ cA) (hg : hs.length < 4611686018427387904) (hz : ∀ z ∈ hs, 0 ≤ z ∧ z ≤ 255)
    (c0 : 0 ≤ c) (c1 : c ≤ 255) (n0 : 0 ≤ n) (n1 : n ≤ 255) :
    Calls Try.prog 9 #[.slice A hs.length cA, .int .u8 c, .int .u8 n] w fun e w' => e = .returned (.bool true) ∧ Below w.heap.size w w' := by
  have HA := Aside0.mk ha
  have HZ := Aside0.mk hz
  clear ha hz
  go_enter Try.func9, Try.ntmps9
  go_upto_block 0 with fail
  go_cut [7, 8] (fun s7 s8 wx => ∃ (zs : List Int) (A7 : Option Addr) (c7 : Nat), s7 = .slice A7 zs.length c7 ∧ s8 = .int .i64 (sumI zs zs.length) ∧ zs.length ≤ 500 ∧ zs.length ≤ c7 ∧ Aside0 (∀ z ∈ zs, 0 ≤ z ∧ z ≤ 255) ∧ Aside0 ((Kd.int .i64).C wx A7 zs.length zs) ∧ Aside0 (Below w.heap.size w wx))
  case first =>
    go_wp2_with fail
    go_loopg [7, 8, 9] hs.length (fun g v7 v8 v9 wr => ∃ k : Nat, k ≤ hs.length ∧ k ≤ 500 ∧ g = hs.length - k ∧ v9 = .int .i64 k ∧ v8 = .int .i64 (sumI hs k) ∧ Aside0 ((Kd.int .i64).R 3 wr w.heap.size (fun _ => True) v7 (hs.take k)) ∧ Aside0 (Below w.heap.size w wr))
    case atStart => exact ⟨0, Nat.zero_le _, Nat.zero_le _, rfl, rfl, rfl, ⟨Kd.R_nil _ _ _ _ _⟩, ⟨Below.refl _ _⟩⟩
    case round =>
      obtain ⟨k, hk, hk5, rfl, rfl, rfl, R7, B7⟩ := hrel
      obtain ⟨s0, s1⟩ := sum_bound HZ.out k hk
      by_cases hlt : k < hs.length ∧ k < 500
      · obtain ⟨hlt, hl5⟩ := hlt
        as_aux_lemma =>
        obtain ⟨ad, eA, hcA'⟩ := at_u8 (Kd.C_below HA.out B7.out) k hlt
        obtain ⟨z1, z2⟩ := HZ.out hs[k] (List.getElem_mem hlt)
        have HT := Aside0.mk (List.take_succ_eq_append_getElem hlt)
        have HS := Aside0.mk (sumI_succ hlt)
        have htl : (hs.take k).length = k := by rw [List.length_take]; omega
        obtain ⟨z, hz⟩ : ∃ z, hs[k] = z := ⟨_, rfl⟩
        rw [hz] at hcA' z1 z2 HT HS
        have HG := Aside0.mk hz
        clear hz
        subst eA
        have i0 : (0 : Int) ≤ (k : Int) := by omega
        have i1 : (k : Int) < (hs.length : Int) := by omega
        have i5 : (k : Int) < 500 := by omega
        go_upto_region 7 with (first | ((with_reducible refine gate_builtin (b := .append) (xs := #[.tmp 35, .tmp 41]) rfl ?_); at_builtin; refine Kd.R_append (Kd.int .i64) (w0 := wr) w.heap.size rfl (.tmp 35) (.tmp 41) 48 3 (.int .i64 0) 8 rfl Try.underlying48 infoI rfl (by decide) (by omega) (u7) (hs.take k) (z) ([.int .i64 z]) (fun _ => True) (fun _ => False) ?aV ?aX ?aP (fun _ hk => hk.elim) (fun _ _ => trivial) ?aO ?aB ?aS ?aL ?_; (case aV => rfl); (case aX => rfl); (case aP => exact rfl); (case aO => exact R7.out); (case aB => exact Below.refl _ _); (case aS => exact B7.out.size); (case aL => omega); intro v8 w8 ho hb hgr hat; have R8 := Aside0.mk ho; have B8 := Aside0.mk hb; clear ho hb hgr hat))
        have B78 := Aside0.mk (B7.out.trans B8.out)
        obtain ⟨ad2, eA2, hcA2⟩ := at_u8 (Kd.C_below HA.out B78.out) k hlt
        rw [HG.out] at hcA2
        obtain rfl : ad = ad2 := Option.some.inj eA2
        clear hcA' eA2
        generalize hS : sumI hs k = S at *
        go_wp2_with fail
        go_roundg (hs.length - (k + 1))
        case measure => omega
        case rel => exact ⟨k + 1, by omega, by omega, rfl, by go_num, by rw [HS.out], ⟨by rw [HT.out]; exact R8.out⟩, B78⟩
      · have hKs : sumI hs k = sumI (hs.take k) (hs.take k).length := by
          unfold sumI
          rw [List.take_of_length_le (Nat.le_refl (hs.take k).length)]
        have hkl : (hs.take k).length = k := by rw [List.length_take]; omega
        have hzz := Aside0.mk (fun z (h : z ∈ hs.take k) => HZ.out z (List.mem_of_mem_take h))
        rw [hKs] at s0 s1 ⊢
        obtain ⟨A7, c7, rfl, hc7, hC7⟩ := Kd.R_reads R7.out
        have HC7 := Aside0.mk hC7
        generalize hs.take k = zs at *
        clear hKs R7 hC7
        obtain rfl : zs.length = k := hkl
        by_cases h1 : zs.length < hs.length
        · have h2 : ¬ ((zs.length : Int) < 500) := by omega
          go_wp2_with fail
          go_meet
          exact ⟨zs, A7, c7, rfl, rfl, hk5, hc7, hzz, HC7, B7⟩
        · go_wp2_with fail
          go_meet
          exact ⟨zs, A7, c7, rfl, rfl, hk5, hc7, hzz, HC7, B7⟩
  case rest =>
    obtain ⟨zs, A7, c7, rfl, rfl, hk5, hc7, HZZ, HC7, B7⟩ := hcut
    obtain ⟨sm, fs, fx, fy, fz, nx, ny, nz, gs, nn, WW⟩ := words_of hk5 HZZ.out
    obtain ⟨s0, s1⟩ := sum_bound HZZ.out zs.length (Nat.le_refl _)
    have hl : zs.length < 4611686018427387904 := by omega
    clear HZ HA
    have FS := Aside0.mk WW.hs
    generalize hS : sumI zs zs.length = S at *
    have M1 := Aside0.mk (smooth_calls A7 c7 zs one (by decide) wc HC7.out hc7 hl)
    unfold SmPost at M1
    rw [WW.sm1] at M1
    simp only at M1
    clear hS
    have K1 := Aside0.mk (fun w' (hb : Below wc.heap.size wc w') => quarters_calls A7 c7 zs w' (Kd.C_below HC7.out hb) hc7 hl)
    rw [WW.q1] at K1
    have HSL := Aside0.mk WW.len
    have es := WW.es
    have ex := WW.ex
    have ey := WW.ey
    have e0 := WW.e0
    have my := WW.my
    have ps := WW.ps
    have p0 := WW.p0
    have HW := Aside0.mk WW
    clear WW
    go_upto_region 9 with (first | (go_at_call 29; refine (M1.out).mono ?_; rintro e w2 ⟨v2, rfl, hr2, hb2⟩; obtain ⟨A2, c2, e2, hc2, hC2⟩ := Kd.R_reads hr2; rw [HSL.out] at e2; subst e2; have C2 := Aside0.mk hC2; have B2 := Aside0.mk hb2; clear hr2 hb2 hC2))
    have K2 := Aside0.mk (K1.out w2 B2.out)
    clear K1 M1
    go_upto_region 10 with (first | (go_at_call 31; refine (K2.out).mono ?_; rintro e w3 ⟨rfl, hb3⟩; have B3 := Aside0.mk hb3; clear hb3))
    have fS : floatOfInt .f64 S = fs := FS.out
    clear FS
    go_upto_block 2 with fail
    clear es ex e0 my ps p0 fS s0 s1 K2
    have B24 := Aside0.mk (below_then (below_then B2.out B2.out.size B3.out) (below_then B2.out B2.out.size B3.out).size (below_alloc (Below.refl _ _) (.cells #[.complex .f64 fs 0, .complex .f64 fx fy, .complex .f64 fz 0, .complex .f64 fx ny] 38 (0, 0))))
    have C4 := Aside0.mk (Kd.C_below HC7.out B24.out)
    have D4 := Aside0.mk (Kd.C_below C2.out (below_then B3.out B3.out.size (below_alloc (Below.refl _ _) (.cells #[.complex .f64 fs 0, .complex .f64 fx fy, .complex .f64 fz 0, .complex .f64 fx ny] 38 (0, 0)))))
    have Q4 := Aside0.mk (heap_alloc_new w3 (.cells #[.complex .f64 fs 0, .complex .f64 fx fy, .complex .f64 fz 0, .complex .f64 fx ny] 38 (0, 0)))
    have B4 := Aside0.mk (below_then B7.out B7.out.size B24.out)
    generalize w3.alloc (.cells #[.complex .f64 fs 0, .complex .f64 fx fy, .complex .f64 fz 0, .complex .f64 fx ny] 38 (0, 0)) = W4 at *
    generalize w3.heap.size = g3 at *
    clear B24 C2 B2 B3 HC7 B7
    go_cut [14] (fun s14 wx => Aside0 (Below W4.heap.size W4 wx))
    case first =>
      go_wp2_with fail
      go_loopg [14] zs.length (fun g s14 wr => ∃ k : Nat, k ≤ zs.length ∧ g = zs.length - k ∧ s14 = .int .i64 k ∧ Aside0 (Below W4.heap.size W4 wr))
      case atStart => exact ⟨0, Nat.zero_le _, rfl, rfl, ⟨Below.refl _ _⟩⟩
      case round =>
        obtain ⟨k, hk, rfl, rfl, BB⟩ := hrel
        by_cases hlt : k < zs.length
        · obtain ⟨y, hy, hne⟩ := HW.out.at_ k hlt
          obtain ⟨ad, eA, hcA⟩ := at_num (Kd.C_below C4.out BB.out) k hlt
          obtain ⟨bd, eB, hcB⟩ := at_fl (Kd.C_below D4.out BB.out) k y hy
          generalize zs[k] = z at *
          clear hy
          subst eA eB
          have i0 : (0 : Int) ≤ (k : Int) := by omega
          have i1 : (k : Int) < (zs.length : Int) := by omega
          go_wp2_with fail
          go_quiet (fail)
          go_wp2_with fail
          go_roundg (zs.length - (k + 1))
          case measure => omega
          case rel => exact ⟨k + 1, by omega, rfl, by go_num, ⟨by first | exact BB.out | exact pw_below_drewN BB.out _⟩⟩
        · obtain rfl : k = zs.length := by omega
          go_wp2_with fail
          go_meet
          exact BB
    case rest =>
      have BB := hcut
      clear hcut
      have C5 := Aside0.mk (Kd.C_below C4.out BB.out)
      have Q5 := Aside0.mk (blk_under BB.out Q4.out)
      have B5 := Aside0.mk (below_then B4.out B4.out.size BB.out)
      clear C4 D4 Q4 B4 BB
      go_upto_region 18 with fail
      have BA := Aside0.mk (below_alloc (Below.refl wc.heap.size wc) (.cells #[.int .i64 0] 3 (0, 0)))
      have C6 := Aside0.mk (Kd.C_below C5.out BA.out)
      have R6 := Aside0.mk (R_fresh1 wc 0 3)
      generalize wc.alloc (.cells #[.int .i64 0] 3 (0, 0)) = W6 at *
      clear C5
      have HM := Aside0.mk HW.out.q2
      rw [show 0 :: zs = [0] ++ zs from rfl] at HM
      have hml := Aside0.mk (show ([0] ++ zs).length < 4611686018427387904 from by rw [List.length_append]; simp only [List.length_cons, List.length_nil]; omega)
      go_upto_region 19 with (first | ((with_reducible refine gate_builtin (b := .append) (xs := #[.tmp 123, .tmp 124]) rfl ?_); at_builtin; refine Kd.R_append_rows (Kd.int .i64) (Rr := (Kd.int .i64).K W6) (w0 := wc) wc.heap.size rfl (.tmp 123) (.tmp 124) 48 3 (.int .i64 0) 8 rfl Try.underlying48 infoI rfl (by decide) (by omega) (.slice (some ⟨wc.heap.size, 0, none⟩) 1 1) ([0]) (zs) (A7) ((zs).length) (c7) (fun _ => True) (fun _ => False) ?aV ?aX ?aO ?aR ?aK (fun _ hk => hk.elim) (fun _ _ => trivial) ?aB ?aS ?aL ?_; (case aV => rfl); (case aX => rfl); (case aO => exact R6.out); (case aR => exact C6.out); (case aK => exact fun x cs h => h); (case aB => exact BA.out); (case aS => exact BA.out.size); (case aL => (first | omega | (simp; omega))); intro v7 w7 ho hb hgr hat; generalize [0] ++ zs = mv at *; obtain ⟨A8, c8, rfl, hc8, hC8⟩ := Kd.R_reads ho; have C8 := Aside0.mk hC8; have B8 := Aside0.mk hb; clear ho hb hgr hat hC8))
      have Q7 := Aside0.mk (blk_under B8.out Q5.out)
      have hg3 := Aside0.mk (blk_lt Q7.out)
      have B7 := Aside0.mk (below_then B5.out B5.out.size B8.out)
      clear Q5 B5 B8 R6 C6 BA
      have K3 := Aside0.mk (quarters_calls A8 c8 mv w7 C8.out hc8 hml.out)
      rw [HM.out] at K3
      have mx := HW.out.mx
      have mz := HW.out.mz
      clear HM
      go_upto_region 20 with (first | (go_at_call 31; refine (K3.out).mono ?_; rintro e w9 ⟨rfl, hb9⟩; have B9 := Aside0.mk hb9; clear hb9))
      have Q9 := Aside0.mk (blk_under B9.out Q7.out)
      have hlt3 : g3 < w9.heap.size := blk_lt Q9.out
      have cq1 : w9.cell? ⟨g3, 1, none⟩ = some (.complex .f64 fx fy) := (blk_cell Q9.out 1).trans rfl
      have cq2 : w9.cell? ⟨g3, 2, none⟩ = some (.complex .f64 fz 0) := (blk_cell Q9.out 2).trans rfl
      clear K3 C8 Q7
      go_upto_block 4 with fail
      have B10 := Aside0.mk (below_alloc (below_then B7.out B7.out.size B9.out) (.cells #[.complex .f64 gs 0, .complex .f64 fy nx, .complex .f64 nz 0, .complex .f64 fy nn] 38 (0, 0)))
      generalize w9.alloc (.cells #[.complex .f64 gs 0, .complex .f64 fy nx, .complex .f64 nz 0, .complex .f64 fy nn] 38 (0, 0)) = W10 at *
      clear cq1 cq2 mx mz ey HW Q9 B9 B7
      obtain ⟨N, rfl⟩ := Int.eq_ofNat_of_zero_le n0
      go_cut [17] (fun s17 wx => ∃ (A17 : Option Addr) (c17 : Nat), s17 = .slice A17 (List.replicate (N + 1) c).length c17 ∧ (List.replicate (N + 1) c).length ≤ c17 ∧ Aside0 ((Kd.int .i64).C wx A17 (List.replicate (N + 1) c).length (List.replicate (N + 1) c)) ∧ Aside0 (Below w.heap.size w wx))
      case first =>
        go_wp2_with fail
        go_loopg [17, 18] (N + 1) (fun g s17 s18 wr => ∃ k : Nat, k ≤ N + 1 ∧ g = N + 1 - k ∧ s18 = .int .i64 k ∧ Aside0 ((Kd.int .i64).R 3 wr W10.heap.size (fun _ => True) s17 (List.replicate k c)) ∧ Aside0 (Below W10.heap.size W10 wr))
        case atStart => exact ⟨0, Nat.zero_le _, rfl, rfl, ⟨Kd.R_nil _ _ _ _ _⟩, ⟨Below.refl _ _⟩⟩
        case round =>
          obtain ⟨k, hk, rfl, rfl, R17, BB⟩ := hrel
          have hkl : (List.replicate k c).length = k := List.length_replicate
          by_cases hlt : k ≤ N
          · have i1 : (k : Int) ≤ (N : Int) := by omega
            have HT := Aside0.mk (List.replicate_succ' (n := k) (a := c))
            generalize List.replicate k c = rk at *
            obtain rfl : rk.length = k := hkl
            go_upto_region 25 with (first | ((with_reducible refine gate_builtin (b := .append) (xs := #[.tmp 168, .tmp 171]) rfl ?_); at_builtin; refine Kd.R_append (Kd.int .i64) (w0 := wr) W10.heap.size rfl (.tmp 168) (.tmp 171) 48 3 (.int .i64 0) 8 rfl Try.underlying48 infoI rfl (by decide) (by omega) (u17) (rk) (c) ([.int .i64 c]) (fun _ => True) (fun _ => False) ?aV ?aX ?aP (fun _ hk => hk.elim) (fun _ _ => trivial) ?aO ?aB ?aS ?aL ?_; (case aV => rfl); (case aX => rfl); (case aP => exact rfl); (case aO => exact R17.out); (case aB => exact Below.refl _ _); (case aS => exact BB.out.size); (case aL => omega); intro v18 w18 ho hb hgr hat; have R18 := Aside0.mk ho; have B18 := Aside0.mk (BB.out.trans hb); clear ho hb hgr hat))
            go_wp2_with fail
            go_roundg (N + 1 - (rk.length + 1))
            case measure => omega
            case rel => exact ⟨rk.length + 1, by omega, rfl, by go_num, ⟨by rw [HT.out]; exact R18.out⟩, B18⟩
          · obtain rfl : k = N + 1 := by omega
            obtain ⟨A17, c17, rfl, hc17, hC17⟩ := Kd.R_reads R17.out
            have C17 := Aside0.mk hC17
            clear hC17 R17
            generalize List.replicate (N + 1) c = rk at *
            clear hkl
            have i1 : ¬ ((N : Int) + 1 ≤ (N : Int)) := by omega
            go_wp2_with fail
            go_meet
            exact ⟨A17, c17, rfl, hc17, C17, ⟨below_then B10.out B10.out.size BB.out⟩⟩
      case rest =>
        obtain ⟨A17, c17, rfl, hc17, C17, B11⟩ := hcut
        obtain ⟨tm, fc, SS⟩ := same_of (n := N + 1) c0 c1 (by omega) (by omega)
        have hsl : (List.replicate (N + 1) c).length < 4611686018427387904 := by rw [List.length_replicate]; omega
        generalize List.replicate (N + 1) c = rk at *
        have S1 := Aside0.mk (stats_calls A17 c17 rk wc C17.out hc17 hsl)
        rw [SS.st] at S1
        have M1 := Aside0.mk (smooth_calls A17 c17 rk half (by decide) wc C17.out hc17 hsl)
        unfold SmPost at M1
        rw [SS.sm] at M1
        simp only at M1
        have HSL2 := Aside0.mk SS.len
        have HH := Aside0.mk SS.hc
        have ec := SS.ec
        have e0 := SS.e0
        have AT := Aside0.mk SS.at_
        clear SS
        go_upto_region 28 with (first | (go_at_call 27; refine (S1.out).mono ?_; rintro e w11 ⟨rfl, rfl⟩))
        clear S1
        go_upto_region 29 with (first | (go_at_call 29; refine (M1.out).mono ?_; rintro e w12 ⟨v12, rfl, hr12, hb12⟩; obtain ⟨A12, c12, e12, hc12, hC12⟩ := Kd.R_reads hr12; rw [HSL2.out] at e12; subst e12; have C12 := Aside0.mk hC12; have B12 := Aside0.mk (below_then B11.out B11.out.size hb12); clear hr12 hb12 hC12))
        clear M1 B11
        have hfc : floatOfInt .f64 c = fc := HH.out
        go_upto_block 6 with fail
        clear ec e0
        go_wp2_with fail
        go_loopw [24] (fun s24 wr => ∃ k : Nat, k ≤ rk.length ∧ s24 = .int .i64 k ∧ Aside0 (Below w12.heap.size w12 wr)) (fun s24 _ => rk.length - (intOf s24).toNat)
        case atStart => exact ⟨0, Nat.zero_le _, rfl, ⟨Below.refl _ _⟩⟩
        case round =>
          obtain ⟨k, hk, rfl, BB⟩ := hrel
          by_cases hlt : k < rk.length
          · obtain ⟨y, hy, hne⟩ := AT.out k hlt
            obtain ⟨bd, eB, hcB⟩ := at_fl (Kd.C_below C12.out BB.out) k y hy
            clear hy
            subst eB
            have i0 : (0 : Int) ≤ (k : Int) := by omega
            have i1 : (k : Int) < (rk.length : Int) := by omega
            go_wp2_with fail
            go_roundw
            case rel => exact ⟨k + 1, by omega, by go_num, BB⟩
            case measure => simp [intOf]; omega
          · obtain rfl : k = rk.length := by omega
            go_wp2_with fail
            go_ret
            exact ⟨rfl, below_then B12.out B12.out.size BB.out⟩
theorem whole_row (A : Option Addr) (cA : Nat) (hs : List Int) (c n : Int) (w : World) (ha : Kd.C (Kd.int .u8) w A hs.length hs) (hcA : hs.length ≤ cA) (hg : (∀ z ∈ hs, (Lit.int .u8 z).wf = true) ∧ hs.length * 1 ≤ 140737488351232 ∧ hs.length ≤ maxLen)
    (hc : (Lit.int .u8 c).wf = true) (hn : (Lit.int .u8 n).wf = true) :
    Calls Try.prog 9 #[.slice A hs.length cA, .int .u8 c, .int .u8 n] w fun e w' => e = .returned (.bool true) ∧ Below w.heap.size w w' :=
  whole_true A cA hs c n w ha hcA (by have := hg.2.1; omega) (fun z h => bounds_u8 (hg.1 z h)) (bounds_u8 hc).1 (bounds_u8 hc).2 (bounds_u8 hn).1 (bounds_u8 hn).2
end Go.Proofs.Ytoopoecopahcbaa.Fl
