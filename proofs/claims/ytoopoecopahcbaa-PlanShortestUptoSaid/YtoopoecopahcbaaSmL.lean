/- PlanShortest: the contract of the law. No condition but the reach. -/
import Derived.Test.YtoopoecopahcbaaSmQ
namespace Go.Proofs.Ytoopoecopahcbaa.Tr
open Go Go.RowKit Go.Proofs.YtoopoecopahcbaaW.PrintWords Go.Proofs.YtoopoecopahcbaaW.PrintLast Go.Proofs.YtoopoecopahcbaaW.PrintMore Go.Proofs.Ytoopoecopahcbaa.PPlanShortest
set_option linter.unusedVariables false
set_option linter.unusedSimpArgs false
theorem infoR : (Try.prog.info? 48).map (fun i => (i.zero, i.size, i.bytes)) = some (some (.slice none 0 0), 1, 24) := by kernel_rfl
theorem lwithin_calls {x : Int} (h1 : -9223372036854775808 ≤ x) (h2 : x ≤ 9223372036854775807) {lo hi : Int} (hlo : 0 ≤ lo) (h : lo ≤ hi) (hh : hi ≤ 1000000000) : ∃ r, lo ≤ r ∧ r ≤ hi ∧ ∀ w, Calls Try.prog 17 #[.int .i64 x, .int .i64 lo, .int .i64 hi] w fun e w' => e = .returned (.int .i64 r) ∧ Below w.heap.size w w' := by
  obtain ⟨r, e, a, b⟩ := within_ok h1 h2 hlo h hh
  exact ⟨r, a, b, fun w => (larderlaw17_within.calls x lo hi r w e).mono fun e w' hq => ⟨hq.1, hq.2.below⟩⟩
/-- Which stops have been seen. -/
def Seen (w : World) (g : Nat) (q : List Nat) (k : Nat) : Prop := ∃ cs : Array Value, w.heap[g]? = some (.cells cs 53 (0, 0)) ∧ cs.size = 6 ∧ ∀ x < 6, cs[x]? = some (.bool (decide (x ∈ q.take k)))
theorem seen_cell {w : World} {g : Nat} {q : List Nat} {k x : Nat} (h : Seen w g q k) (hx : x < 6) : w.cell? ⟨g, x, none⟩ = some (.bool (decide (x ∈ q.take k))) ∧ w.frozen? ⟨g, x, none⟩ = false := by
  obtain ⟨cs, h1, _, h3⟩ := h
  exact ⟨(blk_cell h1 x).trans (h3 x hx), blk_frozen h1 x⟩
theorem seen_put {w : World} {g : Nat} {q : List Nat} {k x : Nat} (h : Seen w g q k) (hk : k < q.length) (hx : q.getD k 0 = x) (hx6 : x < 6) : Seen (w.setCell ⟨g, x, none⟩ (.bool true)) g q (k + 1) := by
  obtain ⟨cs, h1, h2, h3⟩ := h
  have e : q[k] = x := by rw [← hx, List.getD_eq_getElem?_getD, List.getElem?_eq_getElem hk]; rfl
  refine ⟨_, blk_set h1 x _, by simp [h2], fun y hy => ?_⟩
  rw [List.take_succ_eq_append_getElem hk, e]
  by_cases hyx : y = x
  · subst hyx
    rw [Array.getElem?_setIfInBounds_self_of_lt (by omega)]
    simp
  · rw [Array.getElem?_setIfInBounds_ne (Ne.symm hyx), h3 y hy]
    simp [hyx]
theorem round_new {n : Nat} {q : List Nat} (h : Round n q) {k : Nat} (hk : k < n) : decide (q.getD k 0 ∈ q.take k) = false := by
  have hl := round_len h
  have hn : q.Nodup := (List.Perm.nodup_iff h.1).2 List.nodup_range
  refine decide_eq_false fun hm => ?_
  rw [List.getD_eq_getElem?_getD, List.getElem?_eq_getElem (by omega)] at hm
  obtain ⟨i, hi, e⟩ := List.getElem_of_mem hm
  rw [List.length_take] at hi
  rw [List.getElem_take] at e
  have := (List.getElem_inj hn).1 e
  omega
theorem at_q {w : World} {A : Option Addr} {q : List Nat} {n : Nat} (h : Kd.C (Kd.int .i64) w A (ints q).length (ints q)) (hq : Round n q) {i : Nat} (hi : i < n) : ∃ ad, A = some ad ∧ w.cell? (ad.add i) = some (.int .i64 ((q.getD i 0 : Nat) : Int)) := by
  have hl := round_len hq
  obtain ⟨ad, e, hc⟩ := at_int h i (by rw [List.length_map, hl]; exact hi)
  refine ⟨ad, e, hc.trans ?_⟩
  rw [← ints_getD, List.getD_eq_getElem?_getD, List.getElem?_eq_getElem (by rw [List.length_map, hl]; exact hi)]
  rfl
theorem take_six {N : Nat} (h1 : 1 ≤ N) (h6 : N ≤ 6) : ([0, 1, 2, 3, 4, 5] : List Int).take N = ints (List.range N) := by
  have : N = 1 ∨ N = 2 ∨ N = 3 ∨ N = 4 ∨ N = 5 ∨ N = 6 := by omega
  rcases this with rfl | rfl | rfl | rfl | rfl | rfl <;> rfl
theorem range_round {N : Nat} (h1 : 1 ≤ N) : Round N (List.range N) := ⟨List.Perm.refl _, by
  obtain ⟨n, rfl⟩ : ∃ n, N = n + 1 := ⟨N - 1, by omega⟩
  rw [List.range_succ_eq_map]
  rfl⟩
theorem six_C (w : World) {N : Nat} (h1 : 1 ≤ N) (h6 : N ≤ 6) : Kd.C (Kd.int .i64) (w.alloc (.cells #[.int .i64 0, .int .i64 1, .int .i64 2, .int .i64 3, .int .i64 4, .int .i64 5] 3 (0, 0))) (some ⟨w.heap.size, 0, none⟩) (ints (List.range N)).length (ints (List.range N)) := by
  have hR : (Kd.int .i64).R 3 (w.alloc (.cells #[.int .i64 0, .int .i64 1, .int .i64 2, .int .i64 3, .int .i64 4, .int .i64 5] 3 (0, 0))) w.heap.size (fun _ => True) (.slice (some ⟨w.heap.size, 0, none⟩) 6 6) [0, 1, 2, 3, 4, 5] :=
    Kd.R_of_own (enc := Value.int .i64) ⟨rfl, .inr ⟨w.heap.size, 6, #[.int .i64 0, .int .i64 1, .int .i64 2, .int .i64 3, .int .i64 4, .int .i64 5], rfl, Nat.le_refl _, heap_alloc_new _ _, Nat.le_refl _, by decide, rfl, rfl⟩⟩ (fun _ _ => trivial)
  have hC := (Kd.R_reads' hR).2.2
  have := Kd.C_take (m := N) hC (by show N ≤ 6; exact h6)
  rw [take_six h1 h6] at this
  exact this
set_option maxRecDepth 100000 in
set_option maxHeartbeats 16000000 in
theorem shortest_true (A : Option Addr) (c : Nat) (far : List Int) (x0 : Int) (w : World) (ha : Kd.C (Kd.int .i64) w A far.length far) (hc : far.length ≤ c) (hf : ∀ x ∈ far, -9223372036854775808 ≤ x ∧ x ≤ 9223372036854775807) (hl : far.length < 4611686018427387904) (hx : -9223372036854775808 ≤ x0 ∧ x0 ≤ 9223372036854775807) :
    Calls Try.prog 7 #[.slice A far.length c, .int .i64 x0] w fun e w' => e = .returned (.bool true) ∧ Below w.heap.size w w' := by
  have HA := Aside0.mk ha
  have HF := Aside0.mk hf
  clear ha hf
  obtain ⟨r0, r1, r6, HW0'⟩ := lwithin_calls (lo := 1) (hi := 6) hx.1 hx.2 (by omega) (by omega) (by omega)
  have HW0 := Aside0.mk HW0'
  clear HW0' hx
  obtain ⟨N, rfl⟩ := Int.eq_ofNat_of_zero_le (show 0 ≤ r0 by omega)
  have N1 : 1 ≤ N := by omega
  have N6 : N ≤ 6 := by omega
  clear r1 r6
  go_enter Try.func7, Try.ntmps7
  go_upto_region 2 with (first | (go_at_call 17; refine (HW0.out _).mono ?_; rintro e w1 ⟨rfl, hb1⟩; have B1 := Aside0.mk hb1; clear hb1))
  clear HW0
  go_upto_block 0 with fail
  go_cut [5] (fun s5 wx => ∃ (zs : List (List Int)) (A5 : Option Addr) (c5 : Nat), s5 = .slice A5 zs.length c5 ∧ Aside0 (Good N zs) ∧ zs.length ≤ c5 ∧ Aside0 (Kd.C kRow wx A5 zs.length zs) ∧ Aside0 (Below w.heap.size w wx))
  case first =>
    as_aux_lemma =>
    go_wp2_with fail
    go_loopg [5, 6] N (fun g s5 s6 wr => ∃ (i : Nat) (zs : List (List Int)), i ≤ N ∧ g = N - i ∧ s6 = .int .i64 i ∧ Aside0 (zs.length = i) ∧ Aside0 (∀ r ∈ zs, r.length = N ∧ ∀ x ∈ r, 0 ≤ x ∧ x ≤ 1000000000) ∧ Aside0 (kRow.R 48 wr w.heap.size (fun _ => True) s5 zs) ∧ Aside0 (Below w.heap.size w wr))
    case atStart => exact ⟨0, [], Nat.zero_le _, rfl, rfl, ⟨rfl⟩, ⟨fun r hr => by cases hr⟩, ⟨Kd.R_nil _ _ _ _ _⟩, B1⟩
    case round =>
      clear B1
      obtain ⟨i, zs, hi, rfl, rfl, ZL, ZG, RZ0, B0⟩ := hrel
      by_cases hlt : i < N
      · obtain ⟨wo, rfl⟩ : ∃ wo : World, wo = wr := ⟨_, rfl⟩
        go_upto_block 2 with fail
        go_cut [7] (fun s7 wx => ∃ row : List Int, Aside0 (row.length = N ∧ ∀ x ∈ row, 0 ≤ x ∧ x ≤ 1000000000) ∧ Aside0 ((Kd.int .i64).R 3 wx wo.heap.size (fun _ => True) s7 row) ∧ Aside0 (Below wo.heap.size wo wx))
        case first =>
          obtain ⟨p, hp⟩ : ∃ p, i * N = p := ⟨_, rfl⟩
          have hp36 : p ≤ 36 := by rw [← hp]; exact Nat.mul_le_mul (show i ≤ 6 by omega) N6
          have wm : IntKind.i64.wrap ((i : Int) * (N : Int)) = (p : Int) := by
            rw [show (i : Int) * (N : Int) = ((i * N : Nat) : Int) by simp, hp]
            exact Go.IntWalk.i64_in _ (by omega)
          have WM := Aside0.mk wm
          clear wm hp
          go_wp2_with fail
          go_loopg [7, 8] N (fun g s7 s8 wr => ∃ (j : Nat) (row : List Int), j ≤ N ∧ g = N - j ∧ s8 = .int .i64 j ∧ row.length = j ∧ Aside0 (∀ x ∈ row, 0 ≤ x ∧ x ≤ 1000000000) ∧ Aside0 ((Kd.int .i64).R 3 wr wo.heap.size (fun _ => True) s7 row) ∧ Aside0 (Below wo.heap.size wo wr))
          case atStart => exact ⟨0, [], Nat.zero_le _, rfl, rfl, rfl, ⟨fun x hx => by cases hx⟩, ⟨Kd.R_nil _ _ _ _ _⟩, ⟨Below.refl _ _⟩⟩
          case round =>
            obtain ⟨j, row, hj, rfl, rfl, hrl, HRB, RJ, BJ⟩ := hrel
            by_cases hlj : j < N
            · obtain ⟨q, hq⟩ : ∃ q, p + j = q := ⟨_, rfl⟩
              have wq : IntKind.i64.wrap ((p : Int) + (j : Int)) = (q : Int) := by rw [← hq]; exact (Go.IntWalk.i64_in _ (by omega)).trans (by omega)
              have wm := WM.out
              clear hq
              by_cases hqf : q < far.length
              · as_aux_lemma =>
                obtain ⟨ad, eA, cA⟩ := at_int (Kd.C_below HA.out (below_then B0.out B0.out.size BJ.out)) q hqf
                obtain ⟨f1, f2⟩ := HF.out far[q] (List.getElem_mem hqf)
                obtain ⟨x, x1, x2, HX'⟩ := lwithin_calls (lo := 0) (hi := 1000000000) f1 f2 (by omega) (by omega) (by omega)
                have HX := Aside0.mk HX'
                clear HX' f1 f2
                generalize far[q] = fx at *
                have q0 : (0 : Int) ≤ (q : Int) := by omega
                have q1 : (q : Int) < (far.length : Int) := by omega
                subst eA
                go_upto_region 13 with (first | (go_at_call 17; refine (HX.out _).mono ?_; rintro e w7 ⟨rfl, hb7⟩; have RJ2 := Aside0.mk (Kd.R_below RJ.out hb7); have BJ2 := Aside0.mk (below_then BJ.out BJ.out.size hb7); have BX := Aside0.mk (hb7.mono BJ.out.size); clear hb7))
                clear RJ wm wq
                go_upto_region 9 with (first | ((with_reducible refine gate_builtin (b := .append) (xs := #[.tmp 47, .tmp 49]) rfl ?_); at_builtin; refine Kd.R_append (Kd.int .i64) (w0 := wr) wo.heap.size rfl (.tmp 47) (.tmp 49) 48 3 (.int .i64 0) 8 rfl Try.underlying48 infoI rfl (by decide) (by omega) (u7) (row) (x) ([.int .i64 (x)]) (fun _ => True) (fun _ => False) ?aV ?aX ?aP (fun _ hk => hk.elim) (fun _ _ => trivial) ?aO ?aB ?aS ?aL ?_; (case aV => rfl); (case aX => rfl); (case aP => exact rfl); (case aO => exact RJ2.out); (case aB => exact BX.out); (case aS => exact BJ2.out.size); (case aL => omega); intro v8 w8 ho hb hgr hat; have R8 := Aside0.mk ho; have B8 := Aside0.mk (BJ.out.trans hb); clear ho hb hgr hat))
                go_wp2_with fail
                go_roundg (N - (j + 1))
                case measure => omega
                case rel => exact ⟨j + 1, row ++ [x], by omega, rfl, by go_num, by rw [List.length_append, hrl]; rfl, ⟨fun y hy => by
                  rcases List.mem_append.1 hy with h | h
                  · exact HRB.out y h
                  · obtain rfl := List.mem_singleton.1 h
                    exact ⟨by omega, by omega⟩⟩, R8, B8⟩
              · as_aux_lemma =>
                have q1 : ¬ ((q : Int) < (far.length : Int)) := by omega
                go_upto_region 13 with fail
                clear wm wq
                go_upto_region 9 with (first | ((with_reducible refine gate_builtin (b := .append) (xs := #[.tmp 47, .tmp 49]) rfl ?_); at_builtin; refine Kd.R_append (Kd.int .i64) (w0 := wr) wo.heap.size rfl (.tmp 47) (.tmp 49) 48 3 (.int .i64 0) 8 rfl Try.underlying48 infoI rfl (by decide) (by omega) (u7) (row) (1) ([.int .i64 (1)]) (fun _ => True) (fun _ => False) ?aV ?aX ?aP (fun _ hk => hk.elim) (fun _ _ => trivial) ?aO ?aB ?aS ?aL ?_; (case aV => rfl); (case aX => rfl); (case aP => exact rfl); (case aO => exact RJ.out); (case aB => exact Below.refl _ _); (case aS => exact BJ.out.size); (case aL => omega); intro v8 w8 ho hb hgr hat; have R8 := Aside0.mk ho; have B8 := Aside0.mk (BJ.out.trans hb); clear ho hb hgr hat))
                go_wp2_with fail
                go_roundg (N - (j + 1))
                case measure => omega
                case rel => exact ⟨j + 1, row ++ [1], by omega, rfl, by go_num, by rw [List.length_append, hrl]; rfl, ⟨fun y hy => by
                  rcases List.mem_append.1 hy with h | h
                  · exact HRB.out y h
                  · obtain rfl := List.mem_singleton.1 h
                    exact ⟨by omega, by omega⟩⟩, R8, B8⟩
            · obtain rfl : j = N := by omega
              go_wp2_with fail
              go_meet
              exact ⟨row, ⟨hrl, HRB.out⟩, RJ, BJ⟩
        case rest =>
          obtain ⟨row, RG, RW0, BW0⟩ := hcut
          obtain ⟨A7, c7, rfl, hc7, _⟩ := Kd.R_reads RW0.out
          have RZ := Aside0.mk (Kd.R_below RZ0.out BW0.out)
          have BW := Aside0.mk (below_then B0.out B0.out.size BW0.out)
          have RW := Aside0.mk (Kd.R_lower (Kd.R_mono (Kd.R_bound RW0.out) (ok' := fun k => wo.heap.size ≤ k) (fun k hk => hk.2.1)) B0.out.size)
          have HOK := Aside0.mk (show ∀ k, wo.heap.size ≤ k → True ∧ some k ≠ u5.ownBlock from fun k hk => ⟨trivial, fun e => by have := Kd.R_lt RZ0.out k e.symm; omega⟩)
          have hzl : zs.length ≤ 6 := by rw [ZL.out]; omega
          go_upto_region 5 with (first | ((with_reducible refine gate_builtin (b := .append) (xs := #[.tmp 51, .tmp 53]) rfl ?_); at_builtin; refine Kd.R_append kRow (w0 := w) w.heap.size rfl (.tmp 51) (.tmp 53) 47 48 (.slice none 0 0) 24 rfl Try.underlying47 infoR rfl (by decide) (by omega) (u5) (zs) (row) ([.slice A7 row.length c7]) (fun _ => True) (fun k => wo.heap.size ≤ k) ?aV ?aX ?aP (HOK.out) (fun _ _ => trivial) ?aO ?aB ?aS ?aL ?_; (case aV => rfl); (case aX => rfl); (case aP => exact ⟨_, rfl, RW.out⟩); (case aO => exact RZ.out); (case aB => exact BW.out); (case aS => exact BW.out.size); (case aL => omega); intro v5 w5 ho hb hgr hat; have R5 := Aside0.mk ho; have B5 := Aside0.mk hb; clear ho hb hgr hat))
          go_wp2_with fail
          go_roundg (N - (i + 1))
          case measure => omega
          case rel => exact ⟨i + 1, zs ++ [row], by omega, rfl, by go_num, ⟨by rw [List.length_append, ZL.out]; rfl⟩, ⟨fun r hr => by
            rcases List.mem_append.1 hr with h | h
            · exact ZG.out r h
            · obtain rfl := List.mem_singleton.1 h
              exact RG.out⟩, R5, B5⟩
      · obtain rfl : i = N := by omega
        obtain ⟨A5, c5, rfl, hc5, hC5⟩ := Kd.R_reads RZ0.out
        have HC5 := Aside0.mk hC5
        have HL := Aside0.mk ZL.out
        clear hC5
        go_wp2_with fail
        go_meet
        exact ⟨zs, A5, c5, rfl, ⟨⟨ZL.out, ZG.out⟩⟩, hc5, HC5, B0⟩
  case rest =>
    clear B1 HA HF
    obtain ⟨zs, A5, c5, rfl, ZG, hc5, C5, B5⟩ := hcut
    have HT := Aside0.mk (ans_calls A5 c5 zs N wc C5.out hc5 N1 (by omega) ZG.out)
    unfold AnsPost at HT
    go_upto_region 16 with (first | (go_at_call 21; refine (HT.out).mono ?_; rintro e w2 ⟨v, q, m, rfl, hR, hA, hb⟩; obtain ⟨A10, c10, e10, hc10, hC10⟩ := Kd.R_reads hR; have hql : (ints q).length = N := (by rw [List.length_map, round_len hA.round]); rw [hql] at e10 hc10; subst e10; have HQL := Aside0.mk hql; have AC := Aside0.mk hC10; have AN := Aside0.mk hA; have C6 := Aside0.mk (Kd.C_below C5.out hb); have B6 := Aside0.mk (below_then B5.out B5.out.size hb); clear hql hC10 hA hb hR))
    clear HT C5 B5
    obtain ⟨ad, eA, c0⟩ := at_q AC.out AN.out.round (show 0 < N by omega)
    have h00 : q.getD 0 0 = 0 := by
      obtain ⟨p, rfl, _⟩ := round_rest AN.out.round
      rfl
    rw [h00] at c0
    subst eA
    have c00 : w2.cell? ad = some (.int .i64 0) := by have := c0; unfold Addr.add at this; simpa using this
    have hN0 : 0 < N := by omega
    have dNN : ((N : Int) != (N : Int)) = false := by simp
    clear c0 h00
    go_upto_block 4 with fail
    clear c00 dNN
    have SN : Aside0 (Seen (w2.alloc (.cells #[.bool false, .bool false, .bool false, .bool false, .bool false, .bool false] 53 (0, 0))) w2.heap.size q 0) := ⟨⟨_, heap_alloc_new _ _, rfl, fun x hx => by
      have : x = 0 ∨ x = 1 ∨ x = 2 ∨ x = 3 ∨ x = 4 ∨ x = 5 := by omega
      rcases this with rfl | rfl | rfl | rfl | rfl | rfl <;> rfl⟩⟩
    have BA := Aside0.mk (below_alloc (Below.refl w2.heap.size w2) (.cells #[.bool false, .bool false, .bool false, .bool false, .bool false, .bool false] 53 (0, 0)))
    generalize w2.alloc (.cells #[.bool false, .bool false, .bool false, .bool false, .bool false, .bool false] 53 (0, 0)) = W3 at *
    go_cut [14] (fun s14 wx => Aside0 (Below w2.heap.size w2 wx))
    case first =>
      as_aux_lemma =>
      go_wp2_with fail
      go_loopg [14] N (fun g s14 wr => ∃ k : Nat, k ≤ N ∧ g = N - k ∧ s14 = .int .i64 k ∧ Aside0 (Seen wr w2.heap.size q k) ∧ Aside0 (Below w2.heap.size w2 wr))
      case atStart => exact ⟨0, Nat.zero_le _, rfl, rfl, SN, BA⟩
      case round =>
        clear SN BA
        obtain ⟨k, hk, rfl, rfl, SK, BK⟩ := hrel
        by_cases hlk : k < N
        · obtain ⟨ad2, e2, ck⟩ := at_q (Kd.C_below AC.out BK.out) AN.out.round hlk
          obtain rfl : ad = ad2 := Option.some.inj e2
          have hxN := round_at AN.out.round hlk
          have hnew := round_new AN.out.round hlk
          have hkq : k < q.length := by rw [round_len AN.out.round]; exact hlk
          have SP := Aside0.mk (fun x (e : q.getD k 0 = x) (h6 : x < 6) => seen_put SK.out hkq e h6)
          obtain ⟨x, hx⟩ : ∃ x, q.getD k 0 = x := ⟨_, rfl⟩
          rw [hx] at ck hxN hnew
          obtain ⟨cs, fs⟩ := seen_cell SK.out (x := x) (by omega)
          rw [hnew] at cs
          have SP2 := Aside0.mk (SP.out x hx (by omega))
          have hgw : w2.heap.size ≤ w2.heap.size := Nat.le_refl _
          have i0 : (0 : Int) ≤ (k : Int) := by omega
          have i1 : (k : Int) < (N : Int) := by omega
          have x0 : (0 : Int) ≤ (x : Int) := by omega
          have x6 : (x : Int) < 6 := by omega
          have d1 : decide ((x : Int) < 0) = false := decide_eq_false (by omega)
          have d2 : decide ((N : Int) ≤ (x : Int)) = false := decide_eq_false (by omega)
          have d2n : decide (N ≤ x) = false := decide_eq_false (by omega)
          clear hx hnew e2 hkq SP
          go_wp2_with fail
          go_roundg (N - (k + 1))
          case measure => omega
          case rel => exact ⟨k + 1, by omega, rfl, by go_num, SP2, ⟨BK.out.setCell (Nat.le_refl _) _⟩⟩
        · obtain rfl : k = N := by omega
          go_wp2_with fail
          go_meet
          exact BK
    case rest =>
      clear SN BA
      have BK := hcut
      clear hcut
      have C7 := Aside0.mk (Kd.C_below C6.out BK.out)
      have AC7 := Aside0.mk (Kd.C_below AC.out BK.out)
      have B7 := Aside0.mk (below_then B6.out B6.out.size BK.out)
      clear C6 AC B6 BK
      have n0 : (0 : Int) ≤ (N : Int) := by omega
      have n6 : (N : Int) ≤ 6 := by omega
      obtain ⟨wd, rfl⟩ : ∃ wd : World, wd = wc := ⟨_, rfl⟩
      by_cases hN : N = 1
      · have g1 : decide ((1 : Int) < (N : Int)) = false := decide_eq_false (by omega)
        have g1n : decide (1 < N) = false := decide_eq_false (by omega)
        have g2 : ((N : Int) == 1) = true := by rw [hN]; rfl
        obtain rfl : m = 0 := AN.out.single hN
        have HN1 := Aside0.mk hN
        clear hN
        go_upto_region 27 with fail
        obtain ⟨wq, hwq⟩ : ∃ wq : World, wq = wd := ⟨_, rfl⟩
        subst hwq
        have C8 := C7
        have AC8 := AC7
        have B8 := B7
        clear C7 AC7 B7
        go_upto_block 6 with fail
        have CO := Aside0.mk (six_C wq N1 N6)
        have BO := Aside0.mk (below_alloc (Below.refl wq.heap.size wq) (.cells #[.int .i64 0, .int .i64 1, .int .i64 2, .int .i64 3, .int .i64 4, .int .i64 5] 3 (0, 0)))
        generalize wq.alloc (.cells #[.int .i64 0, .int .i64 1, .int .i64 2, .int .i64 3, .int .i64 4, .int .i64 5] 3 (0, 0)) = W9 at *
        have C9 := Aside0.mk (Kd.C_below C8.out BO.out)
        have AC9 := Aside0.mk (Kd.C_below AC8.out BO.out)
        have B9 := Aside0.mk (below_then B8.out B8.out.size BO.out)
        generalize wq.heap.size = gq at *
        clear C8 AC8 B8 BO
        go_wp2_with fail
        go_loopw [15, 16, 17] (fun s15 s16 s17 wr => ∃ (t : Nat) (o : List Nat) (Ao : Option Addr) (co : Nat), t ≤ 120 ∧ s16 = .int .i64 t ∧ s15 = .slice Ao N co ∧ N ≤ co ∧ Aside0 (Round N o) ∧ Aside0 (Kd.C (Kd.int .i64) wr Ao (ints o).length (ints o)) ∧ Aside0 (Below W9.heap.size W9 wr)) (fun _ s16 _ _ => 120 - (intOf s16).toNat)
        case atStart => exact ⟨0, List.range N, some ⟨gq, 0, none⟩, 6, by omega, rfl, rfl, N6, ⟨range_round N1⟩, CO, ⟨Below.refl _ _⟩⟩
        case round =>
          clear CO
          obtain ⟨t, o, Ao, co, ht, rfl, rfl, hco, RO, OC, BB⟩ := hrel
          by_cases hlt : t < 120
          · have hol : (ints o).length = N := by rw [List.length_map, round_len RO.out]
            have HLo := Aside0.mk (larderlaw17_long.calls 20 A5 c5 zs Ao co (ints o) (len zs o) wr (Kd.C_below C9.out BB.out) hc5 OC.out (by rw [hol]; exact hco) (long_ok ZG.out N1 (by omega) RO.out))
            have HNx := Aside0.mk (fun w' (hb : Below wr.heap.size wr w') => next_calls Ao co (ints o) w' (Kd.C_below OC.out hb) (by rw [hol]; exact hco) (by rw [hol]; exact N1) (by rw [hol]; omega))
            unfold NextPost at HNx
            rw [hol] at HLo HNx
            have HOL := Aside0.mk hol
            clear hol
            generalize len zs o = L at *
            go_upto_region 33 with (first | (go_at_call 24; refine (HLo.out).mono ?_; rintro e w4 ⟨rfl, hd4⟩; have B4 := Aside0.mk hd4.below; clear hd4))
            clear HLo
            go_upto_region 35 with fail
            go_wp2_with fail
            refine (HNx.out _ B4.out).mono ?_
            rintro e w6 ⟨v6, r6, rfl, hR6, hcase, hb6⟩
            obtain ⟨A6, c6, rfl, hc6, hC6⟩ := Kd.R_reads hR6
            have B6 := Aside0.mk (below_then BB.out BB.out.size (below_then B4.out B4.out.size hb6))
            rcases hcase with rfl | hlike
            · go_wp2_with fail
              go_ret
              exact ⟨rfl, below_then B9.out B9.out.size B6.out⟩
            · obtain ⟨o2, rfl, hr2⟩ := like_round RO.out hlike
              have hol2 : (ints o2).length = N := by rw [List.length_map, round_len hr2]
              have OC2 := Aside0.mk hC6
              have RO2 := Aside0.mk hr2
              rw [hol2] at hc6
              have HOL2 := Aside0.mk hol2
              have z0 : ((N : Int) == 0) = false := beq_eq_false_iff_ne.2 (by omega)
              clear hR6 hC6 hlike hb6 hol2 hr2
              rw [HOL2.out]
              go_wp2_with fail
              go_roundw
              case rel => exact ⟨t + 1, o2, A6, c6, by omega, by go_num, rfl, hc6, RO2, OC2, B6⟩
              case measure => simp [intOf]; omega
          · obtain rfl : t = 120 := by omega
            go_wp2_with fail
            go_ret
            exact ⟨rfl, below_then B9.out B9.out.size BB.out⟩
      · have g1 : decide ((1 : Int) < (N : Int)) = true := decide_eq_true (by omega)
        have g1n : decide (1 < N) = true := decide_eq_true (by omega)
        have g2 : ((N : Int) == 1) = false := beq_eq_false_iff_ne.2 (by omega)
        obtain ⟨hm, hopt⟩ := AN.out.more (by omega)
        have HLg := Aside0.mk (fun w' (hb : Below wd.heap.size wd w') => larderlaw17_long.calls 20 A5 c5 zs (some ad) c10 (ints q) (len zs q) w' (Kd.C_below C7.out hb) hc5 (Kd.C_below AC7.out hb) (by rw [HQL.out]; exact hc10) (long_ok ZG.out N1 (by omega) AN.out.round))
        rw [HQL.out, ← hm] at HLg
        have HO := Aside0.mk hopt
        have dmm : (m != m) = false := by simp
        clear hm hopt hN
        go_upto_region 27 with (first | (go_at_call 24; refine (HLg.out _ (Below.refl _ _)).mono ?_; rintro e wq ⟨rfl, hdq⟩; have BQ := Aside0.mk hdq.below; clear hdq))
        have C8 := Aside0.mk (Kd.C_below C7.out BQ.out)
        have AC8 := Aside0.mk (Kd.C_below AC7.out BQ.out)
        have B8 := Aside0.mk (below_then B7.out B7.out.size BQ.out)
        clear HLg C7 AC7 B7 BQ dmm
        go_upto_block 6 with fail
        have CO := Aside0.mk (six_C wq N1 N6)
        have BO := Aside0.mk (below_alloc (Below.refl wq.heap.size wq) (.cells #[.int .i64 0, .int .i64 1, .int .i64 2, .int .i64 3, .int .i64 4, .int .i64 5] 3 (0, 0)))
        generalize wq.alloc (.cells #[.int .i64 0, .int .i64 1, .int .i64 2, .int .i64 3, .int .i64 4, .int .i64 5] 3 (0, 0)) = W9 at *
        have C9 := Aside0.mk (Kd.C_below C8.out BO.out)
        have AC9 := Aside0.mk (Kd.C_below AC8.out BO.out)
        have B9 := Aside0.mk (below_then B8.out B8.out.size BO.out)
        generalize wq.heap.size = gq at *
        clear C8 AC8 B8 BO
        go_wp2_with fail
        go_loopw [15, 16, 17] (fun s15 s16 s17 wr => ∃ (t : Nat) (o : List Nat) (Ao : Option Addr) (co : Nat), t ≤ 120 ∧ s16 = .int .i64 t ∧ s15 = .slice Ao N co ∧ N ≤ co ∧ Aside0 (Round N o) ∧ Aside0 (Kd.C (Kd.int .i64) wr Ao (ints o).length (ints o)) ∧ Aside0 (Below W9.heap.size W9 wr)) (fun _ s16 _ _ => 120 - (intOf s16).toNat)
        case atStart => exact ⟨0, List.range N, some ⟨gq, 0, none⟩, 6, by omega, rfl, rfl, N6, ⟨range_round N1⟩, CO, ⟨Below.refl _ _⟩⟩
        case round =>
          clear CO
          obtain ⟨t, o, Ao, co, ht, rfl, rfl, hco, RO, OC, BB⟩ := hrel
          by_cases hlt : t < 120
          · have hol : (ints o).length = N := by rw [List.length_map, round_len RO.out]
            have HLo := Aside0.mk (larderlaw17_long.calls 20 A5 c5 zs Ao co (ints o) (len zs o) wr (Kd.C_below C9.out BB.out) hc5 OC.out (by rw [hol]; exact hco) (long_ok ZG.out N1 (by omega) RO.out))
            have HNx := Aside0.mk (fun w' (hb : Below wr.heap.size wr w') => next_calls Ao co (ints o) w' (Kd.C_below OC.out hb) (by rw [hol]; exact hco) (by rw [hol]; exact N1) (by rw [hol]; omega))
            unfold NextPost at HNx
            rw [hol] at HLo HNx
            obtain ⟨o1, o2'⟩ := HO.out o RO.out
            have HLs := Aside0.mk (fun w' (hb : Below wr.heap.size wr w') => larderlaw17_less.calls 20 Ao co (ints o) (some ad) c10 (ints q) (lexLt (ints o) (ints q)) w' (Kd.C_below OC.out hb) (by rw [hol]; exact hco) (Kd.C_below (Kd.C_below AC9.out BB.out) hb) (by rw [HQL.out]; exact hc10) (less_ok (by rw [hol, HQL.out]) (by rw [hol]; omega)))
            rw [hol, HQL.out] at HLs
            have HO2 := Aside0.mk o2'
            clear o2'
            have HOL := Aside0.mk hol
            clear hol
            generalize len zs o = L at *
            go_upto_region 33 with (first | (go_at_call 24; refine (HLo.out).mono ?_; rintro e w4 ⟨rfl, hd4⟩; have B4 := Aside0.mk hd4.below; clear hd4))
            clear HLo
            have l1 : decide (L < m) = false := decide_eq_false (by omega)
            by_cases hLm : m = L
            · have l2 : (L == m) = true := by rw [hLm]; simp
              rw [HO2.out hLm] at HLs
              clear hLm HO2 o1
              go_upto_region 35 with (first | (go_at_call 25; refine (HLs.out _ B4.out).mono ?_; rintro e w5 ⟨rfl, hd5⟩; have B5 := Aside0.mk (below_then B4.out B4.out.size hd5.below); clear hd5 B4))
              clear HLs l1 l2
              go_wp2_with fail
              refine (HNx.out _ B5.out).mono ?_
              rintro e w6 ⟨v6, r6, rfl, hR6, hcase, hb6⟩
              obtain ⟨A6, c6, rfl, hc6, hC6⟩ := Kd.R_reads hR6
              have B6 := Aside0.mk (below_then BB.out BB.out.size (below_then B5.out B5.out.size hb6))
              rcases hcase with rfl | hlike
              · go_wp2_with fail
                go_ret
                exact ⟨rfl, below_then B9.out B9.out.size B6.out⟩
              · obtain ⟨o2, rfl, hr2⟩ := like_round RO.out hlike
                have hol2 : (ints o2).length = N := by rw [List.length_map, round_len hr2]
                have OC2 := Aside0.mk hC6
                have RO2 := Aside0.mk hr2
                rw [hol2] at hc6
                have HOL2 := Aside0.mk hol2
                have z0 : ((N : Int) == 0) = false := beq_eq_false_iff_ne.2 (by omega)
                clear hR6 hC6 hlike hb6 hol2 hr2
                rw [HOL2.out]
                go_wp2_with fail
                go_roundw
                case rel => exact ⟨t + 1, o2, A6, c6, by omega, by go_num, rfl, hc6, RO2, OC2, B6⟩
                case measure => simp [intOf]; omega
            · have l2 : (L == m) = false := beq_eq_false_iff_ne.2 (Ne.symm hLm)
              clear HLs HO2 hLm o1
              go_upto_region 35 with fail
              clear l1 l2
              go_wp2_with fail
              refine (HNx.out _ B4.out).mono ?_
              rintro e w6 ⟨v6, r6, rfl, hR6, hcase, hb6⟩
              obtain ⟨A6, c6, rfl, hc6, hC6⟩ := Kd.R_reads hR6
              have B6 := Aside0.mk (below_then BB.out BB.out.size (below_then B4.out B4.out.size hb6))
              rcases hcase with rfl | hlike
              · go_wp2_with fail
                go_ret
                exact ⟨rfl, below_then B9.out B9.out.size B6.out⟩
              · obtain ⟨o2, rfl, hr2⟩ := like_round RO.out hlike
                have hol2 : (ints o2).length = N := by rw [List.length_map, round_len hr2]
                have OC2 := Aside0.mk hC6
                have RO2 := Aside0.mk hr2
                rw [hol2] at hc6
                have HOL2 := Aside0.mk hol2
                have z0 : ((N : Int) == 0) = false := beq_eq_false_iff_ne.2 (by omega)
                clear hR6 hC6 hlike hb6 hol2 hr2
                rw [HOL2.out]
                go_wp2_with fail
                go_roundw
                case rel => exact ⟨t + 1, o2, A6, c6, by omega, by go_num, rfl, hc6, RO2, OC2, B6⟩
                case measure => simp [intOf]; omega
          · obtain rfl : t = 120 := by omega
            go_wp2_with fail
            go_ret
            exact ⟨rfl, below_then B9.out B9.out.size BB.out⟩
theorem shortest_row (A : Option Addr) (c : Nat) (far : List Int) (x0 : Int) (w : World) (ha : Kd.C (Kd.int .i64) w A far.length far) (hc : far.length ≤ c) (hg : (∀ z ∈ far, (Lit.int .i64 z).wf = true) ∧ far.length * 8 ≤ 140737488351232 ∧ far.length ≤ maxLen) (hx : (Lit.int .i64 x0).wf = true) :
    Calls Try.prog 7 #[.slice A far.length c, .int .i64 x0] w fun e w' => e = .returned (.bool true) ∧ Below w.heap.size w w' :=
  shortest_true A c far x0 w ha hc (fun x h => bounds_i64 (hg.1 x h)) (by have := hg.2.1; omega) (bounds_i64 hx)
end Go.Proofs.Ytoopoecopahcbaa.Tr
