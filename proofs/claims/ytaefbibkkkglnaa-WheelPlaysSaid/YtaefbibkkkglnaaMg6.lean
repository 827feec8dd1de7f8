/- WheelPlays: does. No condition. -/
import Derived.Test.YtaefbibkkkglnaaMg5
namespace Go.Proofs.Ytaefbibkkkglnaa.Wh
open Go Go.RowKit Go.Proofs.YtaefbibkkkglnaaW.PrintWords Go.Proofs.Ytaefbibkkkglnaa.Fr
set_option linter.unusedVariables false
set_option linter.unusedSimpArgs false
section
variable {w0 w w' : World} {p r : Nat} {now : Int} {l : List E}
theorem id' {a : Prop} (h : a) : a := h
theorem Whl.late {O : Nat → Prop} (h : Whl w O p now l) : ∀ e ∈ l, now < e.2 ∧ e.2 ≤ 1099511627776 := fun e he => by
  obtain ⟨m, S, h1, h2, h3⟩ := h.rep
  obtain ⟨n, hn, rfl⟩ := List.mem_map.1 (h3.mem_iff.1 he)
  obtain ⟨r, k, hr, hk, hnk⟩ := mem_nodes.1 hn
  have := h2 r k hr hk n hnk
  exact ⟨this.1, this.2.1⟩
theorem Both.facts (h : Both w0 w p r now l) : 0 ≤ now ∧ now ≤ 1099511627776 ∧ l.length ≤ 4096 ∧ (l.map Prod.fst).Nodup ∧ Sorted l ∧ Below w0.heap.size w0 w := by
  obtain ⟨O, R, a, b, c, d, e, f⟩ := h
  exact ⟨a.now0, a.now1, a.few, a.nodup, a.sorted, f⟩
theorem both_step2 {O R : Nat → Prop} {n1 : Int} {l1 : List E} {w1 w2 : World} (b : Ref w R r now l) (c : ∀ x, O x → ¬ R x) (d : ∀ x, O x → w0.heap.size ≤ x) (e : w0.heap.size ≤ r) (f : Below w0.heap.size w0 w) (h1 : After w O p n1 l1 w1) (h2 : RAfter w1 R r n1 l1 w2) : Both w0 w2 p r n1 l1 := by
  obtain ⟨O1, g1, g2, g3⟩ := h1
  obtain ⟨R2, k1, k2, k3⟩ := h2
  have hf1 := g3.below_of f f.size (fun k hk hO => by have := d k hO; omega)
  refine ⟨O1, R2, g1.only k3 (fun x h1 h2 h3 => ?_), k1, fun x h1 h2 => ?_, fun x h1 => ?_, e, k3.below_of hf1 hf1.size (fun k hk hr => by omega)⟩
  · subst h3
    rcases g2 x h1 with q | q
    · exact c x q b.own
    · have := b.lt x b.own
      omega
  · rcases k2 x h2 with q | q
    · rcases g2 x h1 with s | s
      · exact c x s q
      · have := b.lt x q
        omega
    · have := g1.lt x h1
      omega
  · rcases g2 x h1 with q | q
    · exact d x q
    · exact Nat.le_trans f.size q
set_option maxRecDepth 100000 in
set_option maxHeartbeats 4000000 in
theorem does_calls (h : Both w0 w p r now l) (kind : Int) (id : ByteArray) (a : Int) (far : Bool) (hs : id.size < 4611686018427387904) (ha : -9223372036854775808 ≤ a ∧ a ≤ 9223372036854775807) :
    Calls Try.prog 28 #[.pointer (some ⟨p, 0, none⟩), .pointer (some ⟨r, 0, none⟩), .agg #[.int .i64 kind, .string id, .int .i64 a, .bool far]] w fun e w' =>
      e = .returned (.bool true) ∧ ∃ now' l', Both w0 w' p r now' l' := by
  obtain ⟨n0, n1, hl, hnd, hsort, -⟩ := h.facts
  have hb1 : Below w.heap.size w (w.alloc (.cells #[.int .i64 kind, .string id, .int .i64 a, .bool far] 62 (0, 0))) := below_alloc (Below.refl _ w) _
  obtain ⟨O, R, x1, x2, x3, x4, x5, x6⟩ := h
  have HW := Aside0.mk (x1.below hb1)
  have HR := Aside0.mk (x2.below hb1)
  have HOR := Aside0.mk x3
  have HO0 := Aside0.mk x4
  have HBW := Aside0.mk (x6.trans (hb1.mono x6.size))
  have HOG := Aside0.mk (show ∀ b, O b → b ≠ w.heap.size from fun b hb => Nat.ne_of_lt (x1.lt b hb))
  have HB := Aside0.mk (show (w.alloc (.cells #[.int .i64 kind, .string id, .int .i64 a, .bool far] 62 (0, 0))).heap[w.heap.size]? = some (.cells #[.int .i64 kind, .string id, .int .i64 a, .bool far] 62 (0, 0)) from heap_alloc_new _ _)
  have HND := Aside0.mk hnd
  have HSO := Aside0.mk hsort
  clear hnd hsort x1 x2 x3 x4 x6 hb1
  go_enter Try.func28, Try.ntmps28
  go_upto_region 2 with fail
  generalize (w.alloc (.cells #[.int .i64 kind, .string id, .int .i64 a, .bool far] 62 (0, 0))) = w1 at *
  generalize w.heap.size = g at *
  have b0 := blk_cell HB.out 0
  have b1 := blk_cell HB.out 1
  have b2 := blk_cell HB.out 2
  have b3 := blk_cell HB.out 3
  have c0 : w1.cell? ⟨g, 0, none⟩ = some (.int .i64 kind) := b0
  have c1 : w1.cell? ⟨g, 1, none⟩ = some (.string id) := b1
  have c2 : w1.cell? ⟨g, 2, none⟩ = some (.int .i64 a) := b2
  have c3 : w1.cell? ⟨g, 3, none⟩ = some (.bool far) := b3
  clear b0 b1 b2 b3
  go_cut [41] (fun s41 wx => w1 = wx ∧ ∃ b : Bool, s41 = .bool b ∧ Aside0 (b = true → 0 ≤ a ∧ a ≤ 1099511627776))
  case first =>
    cases far with
    | false =>
      go_wp2_with fail
      go_meet
      exact ⟨rfl, false, rfl, ⟨fun h => by cases h⟩⟩
    | true =>
      by_cases h0 : 0 ≤ a
      · by_cases h1 : a ≤ 1099511627776
        · go_wp2_with fail
          go_meet
          exact ⟨rfl, true, rfl, ⟨fun _ => ⟨h0, h1⟩⟩⟩
        · have d1 : decide (a ≤ 1099511627776) = false := by simpa using h1
          go_wp2_with fail
          go_meet
          exact ⟨rfl, false, rfl, ⟨fun h => by cases h⟩⟩
      · have d0 : decide (0 ≤ a) = false := by simpa using h0
        go_wp2_with fail
        go_meet
        exact ⟨rfl, false, rfl, ⟨fun h => by cases h⟩⟩
  case rest =>
  obtain ⟨rfl, b, rfl, HBA⟩ := hcut
  go_upto_if 41 with fail
  go_cut [7] (fun s7 wx => w1 = wx ∧ ∃ t : Int, s7 = .int .i64 t)
  case first =>
    cases b with
    | false =>
      go_wp2_with fail
      go_meet
      exact ⟨rfl, _, rfl⟩
    | true =>
      have HNW := Aside0.mk (rnow_calls HR.out)
      obtain ⟨a0, a1⟩ := HBA.out rfl
      have ew : IntKind.i64.wrap (a + now) = a + now := IntWalk.i64_in _ (by omega)
      go_wp2_with fail
      refine (HNW.out).mono ?_
      rintro e w' ⟨rfl, rfl⟩
      go_wp2_with fail
      go_meet
      exact ⟨rfl, _, rfl⟩
  case rest =>
  obtain ⟨rfl, t, rfl⟩ := hcut
  by_cases hk : kind = 0
  · as_aux_lemma =>
    subst hk
    have c1g : ∀ {S : Nat → Prop} {w2 : World}, Only S w1 w2 → ¬ S g → w2.cell? ⟨g, 1, none⟩ = some (.string id) := fun h hn => h.cell c1 hn
    go_wp2_with fail
    refine (add_calls HW.out id t hs).mono ?_
    rintro e w2 ⟨rfl, hA⟩
    obtain ⟨O2, g1, g2, g3⟩ := id' hA
    have c1' := c1g g3 (fun hb => HOG.out _ hb rfl)
    have HR2 := Aside0.mk (HR.out.only g3 (fun x hx hO => HOR.out x hO hx))
    have HA := Aside0.mk hA
    clear hA g1 g2 g3 c1g
    go_wp2_with fail
    refine (radd_calls HR2.out id t hs hl HND.out).mono ?_
    rintro e w3 ⟨rfl, hB3⟩
    have HB3 := Aside0.mk hB3
    clear hB3
    generalize addE now l id t = v at *
    have hvv : (v == v) = true := by simp
    go_wp2_with fail
    go_ret
    exact ⟨rfl, now, _, both_step2 HR.out HOR.out HO0.out x5 HBW.out HA.out HB3.out⟩
  by_cases hk : kind = 1
  · as_aux_lemma =>
    subst hk
    have c1g : ∀ {S : Nat → Prop} {w2 : World}, Only S w1 w2 → ¬ S g → w2.cell? ⟨g, 1, none⟩ = some (.string id) := fun h hn => h.cell c1 hn
    go_wp2_with fail
    refine (change_calls HW.out id t hs).mono ?_
    rintro e w2 ⟨rfl, hA⟩
    obtain ⟨O2, g1, g2, g3⟩ := id' hA
    have c1' := c1g g3 (fun hb => HOG.out _ hb rfl)
    have HR2 := Aside0.mk (HR.out.only g3 (fun x hx hO => HOR.out x hO hx))
    have HA := Aside0.mk hA
    clear hA g1 g2 g3 c1g
    go_wp2_with fail
    refine (rchange_calls HR2.out id t hs hl HND.out).mono ?_
    rintro e w3 ⟨rfl, hB3⟩
    have HB3 := Aside0.mk hB3
    clear hB3
    generalize changeE now l id t = v at *
    have hvv : (v == v) = true := by simp
    go_wp2_with fail
    go_ret
    exact ⟨rfl, now, _, both_step2 HR.out HOR.out HO0.out x5 HBW.out HA.out HB3.out⟩
  by_cases hk : kind = 2
  · as_aux_lemma =>
    subst hk
    have c1g : ∀ {S : Nat → Prop} {w2 : World}, Only S w1 w2 → ¬ S g → w2.cell? ⟨g, 1, none⟩ = some (.string id) := fun h hn => h.cell c1 hn
    go_wp2_with fail
    refine (remove_calls HW.out id hs).mono ?_
    rintro e w2 ⟨rfl, hA⟩
    obtain ⟨O2, g1, g2, g3⟩ := id' hA
    have c1' := c1g g3 (fun hb => HOG.out _ hb rfl)
    have HR2 := Aside0.mk (HR.out.only g3 (fun x hx hO => HOR.out x hO hx))
    have HA := Aside0.mk hA
    clear hA g1 g2 g3 c1g
    go_wp2_with fail
    refine (rremove_calls HR2.out id hs hl HND.out).mono ?_
    rintro e w3 ⟨rfl, hB3⟩
    have HB3 := Aside0.mk hB3
    clear hB3
    generalize findE l id = v at *
    have hvv : (v == v) = true := by simp
    go_wp2_with fail
    go_ret
    exact ⟨rfl, now, _, both_step2 HR.out HOR.out HO0.out x5 HBW.out HA.out HB3.out⟩
  by_cases hk : kind = 3
  · as_aux_lemma =>
    subst hk
    go_wp2_with fail
    refine (at_calls HW.out id hs).mono ?_
    rintro e w2 ⟨rfl, n, rfl⟩
    go_wp2_with fail
    refine (rat_calls (HR.out.drewN n) id hs (by omega) HND.out).mono ?_
    rintro e w3 ⟨rfl, rfl⟩
    generalize atV l id = v at *
    generalize findE l id = u at *
    have hvv : (v == v) = true := by simp
    have huu : (u == u) = true := by simp
    go_wp2_with fail
    go_ret
    exact ⟨rfl, now, _, O, R, HW.out.drewN n, HR.out.drewN n, HOR.out, HO0.out, x5, pw_below_drewN HBW.out n⟩
  by_cases hk : kind = 4
  · as_aux_lemma =>
    subst hk
    by_cases hr : 0 ≤ t ∧ t ≤ 1099511627776
    · by_cases hp : t < now
      · have HC0 := Aside0.mk HW.out.c0
        go_wp2_with fail
        refine (adv_past t w1 hr HC0.out hp).mono ?_
        rintro e w2 ⟨rfl, n, rfl⟩
        go_wp2_with fail
        refine (radv_past (HR.out.drewN n) t hr hp).mono ?_
        rintro e w3 ⟨rfl, rfl⟩
        go_wp2_with fail
        refine (texts_calls none none 0 0 [] _ ⟨rfl, by simp, fun h => by simp at h⟩ ⟨rfl, by simp, fun h => by simp at h⟩ (by simp) (by simp) (by simp)).mono ?_
        rintro e w4 ⟨rfl, n2, rfl⟩
        go_wp2_with fail
        go_ret
        exact ⟨rfl, now, _, O, R, HW.out.drewN (n + n2), HR.out.drewN (n + n2), HOR.out, HO0.out, x5, pw_below_drewN HBW.out (n + n2)⟩
      · go_wp2_with fail
        refine (advance_calls HW.out t hr.1 hr.2 (by omega)).mono ?_
        rintro e w2 ⟨v2, rfl, hR2, hW2, hO2⟩
        have HR2 := Aside0.mk (HR.out.only hO2 (fun x hx hO => HOR.out x hO hx))
        have HA2 := Aside0.mk (show After w1 O p t (leftF t l) w2 from ⟨O, hW2, fun b hb => .inl hb, hO2⟩)
        have HS2 := Aside0.mk hR2
        have hrz : r < w1.heap.size := HR.out.lt r HR.out.own
        have HRZ := Aside0.mk hrz
        clear hR2 hW2 hO2 hrz
        go_wp2_with fail
        refine (radv_ok HR2.out HSO.out hl t hr (by omega)).mono ?_
        rintro e w3 ⟨v3, rfl, hR3, hA3⟩
        have HA3 := Aside0.mk hA3
        have hs2 := R_over HS2.out hA3.choose_spec.2.2 (fun b hb => by rw [hb]; exact HRZ.out)
        have hzl : ((toldF t l).map Prod.fst).length < 4611686018427387904 := by
          rw [List.length_map]
          have : (toldF t l).length ≤ l.length := List.length_filter_le _ _
          omega
        generalize (toldF t l).map Prod.fst = zs at *
        obtain ⟨A2, c2', rfl, hc2, hC2⟩ := Kd.R_reads hs2
        obtain ⟨A3, c3', rfl, hc3, hC3⟩ := Kd.R_reads hR3
        have HCC := Aside0.mk (And.intro hC2 hC3)
        clear hs2 hR3 hC2 hC3 hA3
        go_wp2_with fail
        refine (texts_calls A2 A3 c2' c3' zs _ HCC.out.1 HCC.out.2 hc2 hc3 hzl).mono ?_
        rintro e w4 ⟨rfl, n2, rfl⟩
        go_wp2_with fail
        go_ret
        have hfin := both_step2 HR.out HOR.out HO0.out x5 HBW.out HA2.out HA3.out
        exact ⟨rfl, t, _, hfin.drewN n2⟩
    · go_wp2_with fail
      refine (adv_bad t p w1 hr).mono ?_
      rintro e w2 ⟨rfl, n, rfl⟩
      go_wp2_with fail
      refine (radv_bad t r _ hr).mono ?_
      rintro e w3 ⟨rfl, rfl⟩
      go_wp2_with fail
      refine (texts_calls none none 0 0 [] _ ⟨rfl, by simp, fun h => by simp at h⟩ ⟨rfl, by simp, fun h => by simp at h⟩ (by simp) (by simp) (by simp)).mono ?_
      rintro e w4 ⟨rfl, n2, rfl⟩
      go_wp2_with fail
      go_ret
      exact ⟨rfl, now, _, O, R, HW.out.drewN (n + n2), HR.out.drewN (n + n2), HOR.out, HO0.out, x5, pw_below_drewN HBW.out (n + n2)⟩
  by_cases hk : kind = 5
  · as_aux_lemma =>
    subst hk
    have hlate := HW.out.late
    have HLATE := Aside0.mk hlate
    clear hlate
    go_wp2_with fail
    refine (next_calls HW.out).mono ?_
    rintro e w2 ⟨rfl, rfl⟩
    go_wp2_with fail
    refine (rnext_calls HR.out).mono ?_
    rintro e w2 ⟨rfl, rfl⟩
    generalize headT l = hv at *
    generalize decide (0 < l.length) = hb at *
    have q1 : (hv == hv) = true := by simp
    have q2 : (hb == hb) = true := by simp
    have q3 : (now == now) = true := by simp
    have q4 : ((l.length : Int) == (l.length : Int)) = true := by simp
    go_wp2_with fail
    refine (now_calls HW.out).mono ?_
    rintro e w2 ⟨rfl, rfl⟩
    go_wp2_with fail
    refine (rnow_calls HR.out).mono ?_
    rintro e w2 ⟨rfl, rfl⟩
    go_wp2_with fail
    refine (len_calls HW.out).mono ?_
    rintro e w2 ⟨rfl, rfl⟩
    go_wp2_with fail
    refine (rlen_calls HR.out).mono ?_
    rintro e w2 ⟨rfl, rfl⟩
    go_wp2_with fail
    refine (spread_calls HW.out).mono ?_
    rintro e w2 ⟨rfl, hB2⟩
    have HB2 := Aside0.mk hB2
    clear hB2
    go_wp2_with fail
    refine (rspread_calls (HR.out.below HB2.out) hl n0 HLATE.out).mono ?_
    rintro e w3 ⟨rfl, hB3⟩
    have HB3 := Aside0.mk hB3
    clear hB3
    generalize spr now l = sf at *
    have hq7 := eq7_same sf
    unfold sprV at hq7 ⊢
    go_wp2_with fail
    go_ret
    have h2 : Both w0 w3 p r now l := Both.same (w := w2) (Both.same (w := w1) ⟨O, R, HW.out, HR.out, HOR.out, HO0.out, x5, HBW.out⟩ HB2.out) HB3.out
    exact ⟨rfl, now, _, h2⟩
  by_cases hk : kind = 6
  · as_aux_lemma =>
    subst hk
    go_upto_region 31 with fail
    go_cut [187] (fun s187 wx => w1 = wx ∧ ∃ b : Bool, s187 = .bool b ∧ Aside0 (b = false → 0 ≤ a ∧ a ≤ 10))
    case first =>
      by_cases h0 : a < 0
      · have d0 : decide (a < 0) = true := by simpa using h0
        go_wp2_with fail
        go_meet
        exact ⟨rfl, true, rfl, ⟨fun h => by cases h⟩⟩
      · have d0 : decide (a < 0) = false := by simpa using h0
        by_cases h1 : 10 < a
        · have d1 : decide (10 < a) = true := by simpa using h1
          go_wp2_with fail
          go_meet
          exact ⟨rfl, true, rfl, ⟨fun h => by cases h⟩⟩
        · have d1 : decide (10 < a) = false := by simpa using h1
          go_wp2_with fail
          go_meet
          exact ⟨rfl, false, rfl, ⟨fun _ => by omega⟩⟩
    case rest =>
    obtain ⟨rfl, b, rfl, HBB⟩ := hcut
    go_upto_if 187 with fail
    go_cut [26] (fun s26 wx => w1 = wx ∧ ∃ m : Nat, s26 = .int .i64 (m : Int) ∧ m ≤ 10)
    case first =>
      cases b with
      | true =>
        go_wp2_with fail
        go_meet
        exact ⟨rfl, 10, rfl, by omega⟩
      | false =>
        obtain ⟨a0, a1⟩ := HBB.out rfl
        go_wp2_with fail
        go_meet
        exact ⟨rfl, a.toNat, by rw [Int.toNat_of_nonneg a0], by omega⟩
    case rest =>
    obtain ⟨rfl, m, rfl, hm⟩ := hcut
    go_wp2_with fail
    refine (rlist_calls HR.out hl).mono ?_
    rintro e w2 ⟨v27, rfl, hR27, hB2⟩
    have HR27 := Aside0.mk hR27
    have HB2 := Aside0.mk hB2
    have HW2 := Aside0.mk (HW.out.below hB2)
    obtain ⟨A27, c27, rfl, hc27, hC27⟩ := Kd.R_reads hR27
    have HC27 := Aside0.mk hC27
    clear hR27 hB2 hC27
    go_wp2_with fail
    refine (walked_calls HW2.out (m : Int) (by omega)).mono ?_
    rintro e w3 ⟨v28, rfl, hR28, hB3⟩
    have HW3 := Aside0.mk (HW2.out.below hB3)
    have HB3 := Aside0.mk hB3
    have hwm : walkF (m : Int) l = l.take m := by
      unfold walkF
      by_cases h : (m : Int) < 1
      · obtain rfl : m = 0 := by omega
        rw [if_pos h, List.take_zero]
      · rw [if_neg h, Int.toNat_natCast]
    rw [hwm] at hR28
    obtain ⟨xs, hxs⟩ : ∃ xs, xs = l.take m := ⟨_, rfl⟩
    rw [← hxs] at hR28
    have hxm : xs.length = min m l.length := by rw [hxs, List.length_take]
    obtain ⟨A28, c28, rfl, hc28, hC28⟩ := Kd.R_reads hR28
    have HC28 := Aside0.mk hC28
    have el : IntKind.i64.wrap ((l.length : Int) + 1) = (l.length : Int) + 1 := IntWalk.i64_in _ (by omega)
    have HXS := Aside0.mk hxs
    have HXM := Aside0.mk hxm
    clear hR28 hB3 hC28 hwm hxs hxm
    go_wp2_with fail
    refine (walked_calls HW3.out ((l.length : Int) + 1) (by omega)).mono ?_
    rintro e w4 ⟨v29, rfl, hR29, hB4⟩
    have hwl : walkF ((l.length : Int) + 1) l = l := by
      unfold walkF
      rw [if_neg (by omega)]
      exact List.take_of_length_le (by omega)
    rw [hwl] at hR29
    have HW4 := Aside0.mk (HW3.out.below hB4)
    obtain ⟨A29, c29, rfl, hc29, hC29⟩ := Kd.R_reads hR29
    have HC29 := Aside0.mk hC29
    have HBA := Aside0.mk ((HB2.out.trans (HB3.out.mono HB2.out.size)).trans (hB4.mono (Nat.le_trans HB2.out.size HB3.out.size)))
    have HCA := Aside0.mk (Kd.C_below HC28.out hB4)
    have HCL := Aside0.mk (Kd.C_below (Kd.C_below HC27.out HB3.out) hB4)
    have HCB := Aside0.mk (show kE.C w4 A27 xs.length xs from by
      have h := Kd.C_take (m := min m l.length) HCL.out (by omega)
      rw [show l.take (min m l.length) = l.take m from by rw [List.take_eq_take_iff]; omega] at h
      rw [HXS.out]
      exact h)
    have hxl : xs.length ≤ l.length := by rw [HXM.out]; omega
    clear hR29 hB4 hC29 hwl
    go_upto_if 201 with fail
    go_cut [26] (fun s26 wx => w4 = wx ∧ s26 = .int .i64 ((xs.length : Nat) : Int))
    case first =>
      by_cases h : l.length < m
      · have d : decide (l.length < m) = true := by simpa using h
        have HX := Aside0.mk (show l.length = xs.length by rw [HXM.out]; omega)
        go_wp2_with fail
        go_meet
        exact ⟨rfl, by rw [HX.out]⟩
      · have d : decide (l.length < m) = false := by simpa using h
        have HX := Aside0.mk (show m = xs.length by rw [HXM.out]; omega)
        go_wp2_with fail
        go_meet
        exact ⟨rfl, by rw [HX.out]⟩
    case rest =>
    obtain ⟨rfl, rfl⟩ := hcut
    have x0 : (0 : Int) ≤ (xs.length : Int) := by omega
    go_wp2_with fail
    refine (timers_calls A28 A27 c28 c27 xs w4 HCA.out HCB.out (by omega)).mono ?_
    rintro e w5 ⟨rfl, q1, rfl⟩
    go_wp2_with fail
    refine (timers_calls A29 A27 c29 c27 l (w4.drewN q1) (Kd.C_below HC29.out (pw_below_drewN (Below.refl _ _) q1)) (Kd.C_below HCL.out (pw_below_drewN (Below.refl _ _) q1)) (by omega)).mono ?_
    rintro e w6 ⟨rfl, q2, rfl⟩
    go_wp2_with fail
    go_ret
    exact ⟨rfl, now, _, O, R, HW4.out.drewN (q1 + q2), (HR.out.below HBA.out).drewN (q1 + q2), HOR.out, HO0.out, x5, pw_below_drewN (HBW.out.trans (HBA.out.mono HBW.out.size)) (q1 + q2)⟩
  · as_aux_lemma =>
    go_wp2_with fail
    go_ret
    exact ⟨rfl, now, _, O, R, HW.out, HR.out, HOR.out, HO0.out, x5, HBW.out⟩
end
end Go.Proofs.Ytaefbibkkkglnaa.Wh

