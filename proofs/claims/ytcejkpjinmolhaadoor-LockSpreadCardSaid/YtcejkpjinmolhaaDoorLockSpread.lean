/- LockSpread: the contract of the law. No condition. -/
import Derived.Test.YtcejkpjinmolhaaDoorLockSets
namespace Go.Proofs.YtcejkpjinmolhaaDoor.Dr
open Go Go.RowKit Go.Proofs.YtcejkpjinmolhaaDoorW.PrintWords Go.Proofs.YtcejkpjinmolhaaDoorW.PrintLast Go.Proofs.YtcejkpjinmolhaaDoorW.PrintMore Go.Proofs.YtcejkpjinmolhaaDoor.PLockStripes
set_option linter.unusedVariables false
set_option linter.unusedSimpArgs false

theorem setF_law (n : Int) (keys : List ByteArray) (h1 : 1 ≤ n) (h2 : n ≤ 64) : (setF n keys).Pairwise (· < ·) ∧ ∀ x, x ∈ setF n keys ↔ ∃ s ∈ keys, stripeF s n = x := by
  have e : setF n keys = Lib.compact (sortF (stripesF n keys)) := by unfold setF; rw [if_neg (by omega)]
  rw [e]
  obtain ⟨a, b⟩ := compact_sort (stripesF n keys)
  refine ⟨a, fun x => ?_⟩
  rw [b]
  unfold stripesF
  rw [List.mem_map]
theorem stripe_one (s : ByteArray) : stripeF s 1 = 0 := by
  unfold stripeF
  rw [if_neg (by omega)]
  have : sum s % 1 = 0 := by omega
  show ((sum s % (1 : Int).toNat : Nat) : Int) = 0
  rw [show (1 : Int).toNat = 1 from rfl, this]
  rfl
theorem stripe_out (s : ByteArray) (n : Int) (h : n < 1 ∨ n > 64) : stripeF s n = -1 := by unfold stripeF; rw [if_pos h]
theorem set_out (keys : List ByteArray) (n : Int) (h : n < 1 ∨ n > 64) : setF n keys = [] := by unfold setF; rw [if_pos h]
theorem set_two (a b : ByteArray) : setF 1 [a, b] = [0] := by
  obtain ⟨h1, h2⟩ := setF_law 1 [a, b] (by omega) (by omega)
  refine lt_ext _ _ h1 (by simp) (fun x => ?_)
  rw [h2, List.mem_singleton]
  constructor
  · rintro ⟨s, _, rfl⟩
    exact stripe_one s
  · rintro rfl
    exact ⟨a, List.mem_cons_self .., stripe_one a⟩
def inTo (L : List Int) (k : Nat) (s : Int) : Bool := (L.take k).any (fun x => x == s)
theorem inTo_succ (L : List Int) (k : Nat) (s : Int) (h : k < L.length) : inTo L (k + 1) s = (inTo L k s || L[k] == s) := by
  unfold inTo
  rw [List.take_succ_eq_append_getElem h, List.any_append]
  simp
theorem inTo_all (L : List Int) (s : Int) (h : s ∈ L) : inTo L L.length s = true := by
  unfold inTo
  rw [List.take_length, List.any_eq_true]
  exact ⟨s, h, by simp⟩
theorem hits_mem (n : Int) (keys : List ByteArray) (x : Int) (h : ∃ s ∈ keys, stripeF s n = x) : hits n (keys.take keys.length) x = true := by
  unfold hits
  rw [List.take_length, List.any_eq_true]
  obtain ⟨s, hs, e⟩ := h
  exact ⟨s, hs, by simp [e]⟩
theorem nil_both (n : Int) (keys : List ByteArray) (h : ∀ x, x ∈ setF n keys ↔ ∃ s ∈ keys, stripeF s n = x) : (setF n keys).length = 0 ↔ keys.length = 0 := by
  constructor
  · intro e
    rcases keys with _ | ⟨a, keys⟩
    · rfl
    · have := (h (stripeF a n)).2 ⟨a, List.mem_cons_self .., rfl⟩
      rw [List.eq_nil_of_length_eq_zero e] at this
      cases this
  · intro e
    rw [List.eq_nil_of_length_eq_zero e] at h ⊢
    rcases hL : setF n [] with _ | ⟨x, L⟩
    · rfl
    · obtain ⟨s, hs, _⟩ := (h x).1 (by rw [hL]; exact List.mem_cons_self ..)
      cases hs
theorem cell_drew {w : World} {a : Addr} {v : Value} (h : w.cell? a = some v) : w.drew.cell? a = some v := h
theorem below_of_drew {B : Nat} {w W : World} (h : Below B w.drew W) : Below B w W := ⟨h.os, h.tape, h.output, h.size, h.block⟩
theorem tab_drew {w : World} (h : Tab w) : Tab w.drew := tab_below h (pw_below_drewN (Below.refl _ _) 1)

set_option maxRecDepth 100000 in
set_option maxHeartbeats 4000000 in
theorem spread_out (A : Option Addr) (c : Nat) (keys : List ByteArray) (n : Int) (w : World) (hT : Tab w) (hr : Kd.C Kd.string w A keys.length keys) (hc : keys.length ≤ c) (hs : ∀ s ∈ keys, s.size ≤ 140737488351232) (hg : keys.length * 16 ≤ 140737488351232) (hn : (Lit.int .i64 n).wf = true) (ho : n < 1 ∨ n > 64) :
    Calls Tryd.prog 5 #[.slice A keys.length c, .int .i64 n] w fun e w' => e = .returned (.bool true) ∧ Below w.heap.size w w' := by
  have HT := Aside0.mk hT
  have S1 := Aside0.mk (stripe_calls ⟨#[97]⟩ n w hT (by decide) hn)
  rw [stripe_out _ n ho] at S1
  have S2 := Aside0.mk (fun w1 (h : Tab w1) => set_calls A c keys n w1 h)
  have S2 : ∀ w1, Tab w1 → Below w.heap.size w w1 → _ := fun w1 h hb => set_calls A c keys n w1 h (Kd.C_below hr hb) hc hs hg hn
  rw [set_out keys n ho] at S2
  have S2 := Aside0.mk S2
  have S3 := fun w1 (h : Tab w1) => stripe_calls ⟨#[97]⟩ 1 w1 h (by decide) (by decide)
  rw [stripe_one] at S3
  have S3 := Aside0.mk S3
  have S4 : ∀ w1, Tab w1 → _ := fun w1 h => set_calls (some ⟨w1.heap.size, 0, none⟩) 2 [⟨#[97]⟩, ⟨#[98]⟩] 1 (w1.alloc (.cells #[.string ⟨#[97]⟩, .string ⟨#[98]⟩] 9 (0, 0))) (tab_below h (below_alloc (Below.refl _ _) _)) (two_row w1 ⟨#[97]⟩ ⟨#[98]⟩ 9) (by decide) (by intro s hs; simp at hs; rcases hs with rfl | rfl <;> decide) (by decide) (by decide)
  rw [set_two] at S4
  have S4 := Aside0.mk S4
  clear hr hc hs hT
  have q1 : (decide (n < 1) = true) ∨ (decide (n < 1) = false ∧ decide (n > 64) = true) := by
    rcases ho with h | h
    · exact .inl (decide_eq_true h)
    · exact .inr ⟨decide_eq_false (by omega), decide_eq_true h⟩
  clear ho
  rcases q1 with d1 | ⟨d1, d2⟩
  all_goals
    go_enter Tryd.func5, Tryd.ntmps5
    go_wp2_with fail
    refine (S1.out).mono ?_
    rintro e w3 ⟨rfl, hb3, hT3⟩
    have B3 := Aside0.mk hb3
    have T3 := Aside0.mk hT3
    clear hb3 hT3
    go_wp2_with fail
    refine (S2.out _ T3.out B3.out).mono ?_
    rintro e w4 ⟨v4, rfl, hr4, hb4, hT4⟩
    obtain ⟨A4, c4, rfl, hc4, hC4⟩ := Kd.R_reads hr4
    have B4 := Aside0.mk (below_then B3.out B3.out.size hb4)
    have T4 := Aside0.mk hT4
    clear hr4 hb4 hT4 hC4
    go_wp2_with fail
    refine (S3.out _ T4.out).mono ?_
    rintro e w5 ⟨rfl, hb5, hT5⟩
    have B5 := Aside0.mk (below_then B4.out B4.out.size hb5)
    have T5 := Aside0.mk hT5
    clear hb5 hT5
    go_wp2_with fail
    refine (S4.out _ T5.out).mono ?_
    rintro e w6 ⟨v6, rfl, hr6, hb6, hT6⟩
    obtain ⟨A6, c6, rfl, hc6, hC6⟩ := Kd.R_reads hr6
    have B6 := Aside0.mk (below_then (below_alloc B5.out _) (by have := B5.out.size; rw [World.size_alloc]; omega) hb6)
    clear hr6 hb6 hT6 hC6
    go_wp2_with fail
    go_ret
    exact ⟨rfl, B6.out⟩

set_option maxRecDepth 100000 in
set_option maxHeartbeats 4000000 in
theorem spread_true (A : Option Addr) (c : Nat) (keys : List ByteArray) (n : Int) (w : World) (hT : Tab w) (hr : Kd.C Kd.string w A keys.length keys) (hc : keys.length ≤ c) (hs : ∀ s ∈ keys, s.size ≤ 140737488351232) (hg : keys.length * 16 ≤ 140737488351232) (hn : (Lit.int .i64 n).wf = true) :
    Calls Tryd.prog 5 #[.slice A keys.length c, .int .i64 n] w fun e w' => e = .returned (.bool true) ∧ Below w.heap.size w w' := by
  by_cases ho : n < 1 ∨ n > 64
  · exact spread_out A c keys n w hT hr hc hs hg hn ho
  have HT := Aside0.mk hT
  have HR := Aside0.mk hr
  have HS := Aside0.mk hs
  have HW := Aside0.mk hn
  obtain ⟨m, rfl⟩ := Int.eq_ofNat_of_zero_le (show 0 ≤ n by omega)
  have m1 : 1 ≤ m := by omega
  have m2 : m ≤ 64 := by omega
  have d1 : decide ((m : Int) < 1) = false := decide_eq_false (by omega)
  have d2 : decide ((m : Int) > 64) = false := decide_eq_false (by omega)
  have SE := Aside0.mk (set_calls A c keys m w hT hr hc hs hg hn)
  obtain ⟨l1, l2⟩ := setF_law m keys (by omega) (by omega)
  have HN := Aside0.mk (nil_both m keys l2)
  have hin : ∀ x ∈ setF m keys, 0 ≤ x ∧ x < m := fun x hx => by
    obtain ⟨s, _, e⟩ := (l2 x).1 hx
    obtain ⟨t, ht, e'⟩ := stripeF_in s m m1 m2
    omega
  have HIN := Aside0.mk hin
  have HPW := Aside0.mk l1
  have HME := Aside0.mk l2
  have S3 := fun w1 (h : Tab w1) => stripe_calls ⟨#[97]⟩ 1 w1 h (by decide) (by decide)
  rw [stripe_one] at S3
  have S3 := Aside0.mk S3
  have hsl := setF_len m keys
  generalize setF (m : Int) keys = L at *
  clear hT hr hs hn ho hin l1 l2
  go_enter Tryd.func5, Tryd.ntmps5
  go_upto_region 4 with (first | (go_at_call 8; refine (SE.out).mono ?_; rintro e w3 ⟨v3, rfl, hr3, hb3, hT3⟩; obtain ⟨A3, c3, rfl, hc3, hC3⟩ := Kd.R_reads hr3; have C3 := Aside0.mk hC3; have B3 := Aside0.mk hb3; have T3 := Aside0.mk hT3; clear hr3 hb3 hT3 hC3))
  clear SE
  go_wp2_with fail
  go_loopw [4, 6, 7, 8] (fun v4 v6 v7 v8 wr => ∃ i : Nat, i ≤ L.length ∧ v6 = .int .i64 i ∧ Aside0 (Below w3.heap.size w3 wr)) (fun _ v6 _ _ _ => L.length - (intOf v6).toNat)
  case atStart => exact ⟨0, Nat.zero_le _, rfl, ⟨Below.refl _ _⟩⟩
  case round =>
    obtain ⟨i, hi, rfl, B4⟩ := hrel
    by_cases hlt : i < L.length
    · obtain ⟨ad, eA, hcA⟩ := at_num (Kd.C_below C3.out B4.out) i hlt
      obtain ⟨hx1, hx2⟩ := HIN.out L[i] (List.getElem_mem hlt)
      have HX := Aside0.mk ((HME.out L[i]).1 (List.getElem_mem hlt))
      have HP : ∀ j, (hj : j < i) → ∃ y, w3.cell? = w3.cell? ∧ L[j]'(by omega) = y ∧ y < L[i] := fun j hj => ⟨_, rfl, rfl, List.pairwise_iff_getElem.1 HPW.out j i (by omega) hlt hj⟩
      have HP := Aside0.mk HP
      have i0 : (0 : Int) ≤ (i : Int) := by omega
      have i1 : (i : Int) < (L.length : Int) := by omega
      have g1 : decide (L[i] < 0) = false := decide_eq_false (by omega)
      have g2 : decide (L[i] ≥ (m : Int)) = false := decide_eq_false (by omega)
      obtain ⟨x, hx⟩ : ∃ x, L[i] = x := ⟨_, rfl⟩
      rw [hx] at hcA hx1 hx2 HX g1 g2
      have HLX := Aside0.mk hx
      clear hx
      subst eA
      by_cases hi0 : i = 0
      case' pos =>
        have g3 : decide (0 < i) = false := decide_eq_false (by omega)
        clear hi0 HP
        go_wp2_with fail
        go_quiet (fail)
      case' neg =>
        obtain ⟨j, hj⟩ : ∃ j, i = j + 1 := ⟨i - 1, by omega⟩
        obtain ⟨bd, eB, hcB⟩ := at_num (Kd.C_below C3.out B4.out) j (by omega)
        obtain ⟨y, _, hy, hyx⟩ := HP.out j (by omega)
        rw [hy] at hcB
        rw [HLX.out] at hyx
        clear hy HP
        obtain rfl : ad = bd := Option.some.inj eB
        clear eB
        have g3 : decide (0 < i) = true := decide_eq_true (by omega)
        have g4 : decide (y ≥ x) = false := decide_eq_false (by omega)
        have i2 : (0 : Int) ≤ (j : Int) := by omega
        have i3 : (j : Int) < (L.length : Int) := by omega
        have i4 : IntKind.i64.wrap ((i : Int) - 1) = (j : Int) := by rw [Go.IntWalk.i64_in _ (by omega)]; omega
        have HJ := Aside0.mk hj
        clear hj hi0
        go_wp2_with fail
        go_quiet (fail)
        clear hcB g4 i4
      all_goals
        clear hcA
        go_wp2_with fail
        go_loopw [7, 8] (fun v7 v8 wr => ∃ k : Nat, k ≤ keys.length ∧ v8 = .int .i64 k ∧ v7 = .bool (hits m (keys.take k) x) ∧ Aside0 (Below w3.heap.size w3 wr)) (fun _ v8 _ => keys.length - (intOf v8).toNat)
        case atStart => exact ⟨0, Nat.zero_le _, rfl, rfl, ⟨pw_below_drewN B4.out _⟩⟩
        case round =>
          clear B4
          obtain ⟨k, hk, rfl, rfl, B4⟩ := hrel
          by_cases hkl : k < keys.length
          · obtain ⟨kd, eK, hcK⟩ := at_str (Kd.C_below HR.out (below_then B3.out B3.out.size B4.out)) k hkl
            obtain ⟨ad', eA', hcA⟩ := at_num (Kd.C_below C3.out B4.out) i hlt
            rw [HLX.out] at hcA
            obtain rfl : ad = ad' := Option.some.inj eA'
            clear eA'
            have hsz := HS.out keys[k] (List.getElem_mem hkl)
            have HN := Aside0.mk (hits_take m keys x k hkl)
            generalize keys[k] = s at *
            subst eK
            have k0 : (0 : Int) ≤ (k : Int) := by omega
            have k1 : (k : Int) < (keys.length : Int) := by omega
            obtain ⟨b7, hb7⟩ : ∃ b, b = hits m (keys.take k) x := ⟨_, rfl⟩
            rw [← hb7] at HN ⊢
            clear hb7
            cases b7
            · go_wp2_with fail
              have HST := Aside0.mk (stripe_calls s m wr.drew (tab_drew (tab_below T3.out B4.out)) hsz HW.out)
              generalize stripeF s m = q at *
              go_region_held3 (fun w' => w'.cell? (kd.add k) = some (.string s) ∧ w'.cell? (ad.add i) = some (.int .i64 x)) (go_keep) (first | (go_at_call 6; refine (HST.out).mono ?_; rintro e w6 ⟨rfl, hb6, hT6⟩; have c1 : w6.cell? (kd.add k) = some (.string s) := pw_cell_below hb6 hcK; have c2 : w6.cell? (ad.add i) = some (.int .i64 x) := pw_cell_below hb6 hcA; have B6 := Aside0.mk (below_then B4.out B4.out.size (below_of_drew hb6)); clear hb6 hT6))
              all_goals
                go_wp2_with fail
                go_roundw
                case rel => exact ⟨k + 1, by omega, by go_num, by rw [HN.out, Bool.false_or], B6⟩
                case measure => simp [intOf]; omega
            · go_wp2_with fail
              go_quiet (fail)
              go_wp2_with fail
              go_roundw
              case rel => exact ⟨k + 1, by omega, by go_num, by rw [HN.out, Bool.true_or], ⟨pw_below_drewN B4.out _⟩⟩
              case measure => simp [intOf]; omega
          · obtain rfl : k = keys.length := by omega
            rw [hits_mem m keys x HX.out]
            go_wp2_with fail
            go_roundw
            case rel => exact ⟨i + 1, by omega, by go_num, B4⟩
            case measure => simp [intOf]; omega
    · obtain rfl : i = L.length := by omega
      go_wp2_with fail
      go_loopw [4, 9, 10, 11, 12] (fun v4 v9 v10 v11 v12 wr => ∃ k : Nat, k ≤ keys.length ∧ v9 = .int .i64 k ∧ Aside0 (Below w3.heap.size w3 wr)) (fun _ v9 _ _ _ _ => keys.length - (intOf v9).toNat)
      case atStart => exact ⟨0, Nat.zero_le _, rfl, B4⟩
      case round =>
        clear B4
        obtain ⟨k, hk, rfl, B4⟩ := hrel
        by_cases hkl : k < keys.length
        · obtain ⟨kd, eK, hcK⟩ := at_str (Kd.C_below HR.out (below_then B3.out B3.out.size B4.out)) k hkl
          have hsz := HS.out keys[k] (List.getElem_mem hkl)
          have HQ := Aside0.mk ((HME.out (stripeF keys[k] m)).2 ⟨keys[k], List.getElem_mem hkl, rfl⟩)
          generalize keys[k] = s at *
          subst eK
          have HST := Aside0.mk (stripe_calls s m wr (tab_below T3.out B4.out) hsz HW.out)
          generalize stripeF s m = q at *
          go_wp2_with (first | (go_at_call 6; refine (HST.out).mono ?_; rintro e w6 ⟨rfl, hb6, hT6⟩; have B6 := Aside0.mk (below_then B4.out B4.out.size hb6); clear hb6 hT6))
          clear HST hcK
          go_loopw [11, 12] (fun v11 v12 wr => ∃ i : Nat, i ≤ L.length ∧ v12 = .int .i64 i ∧ v11 = .bool (inTo L i q) ∧ Aside0 (Below w3.heap.size w3 wr)) (fun _ v12 _ => L.length - (intOf v12).toNat)
          case atStart => exact ⟨0, Nat.zero_le _, rfl, rfl, B6⟩
          case round =>
            clear B6 B4
            obtain ⟨i, hi, rfl, rfl, B6⟩ := hrel
            by_cases hlt : i < L.length
            · obtain ⟨ad, eA, hcA⟩ := at_num (Kd.C_below C3.out B6.out) i hlt
              have HN := Aside0.mk (inTo_succ L i q hlt)
              generalize L[i] = x at *
              subst eA
              obtain ⟨b7, hb7⟩ : ∃ b, b = inTo L i q := ⟨_, rfl⟩
              rw [← hb7] at HN ⊢
              clear hb7
              cases b7
              · go_wp2_with fail
                go_roundw
                case rel => exact ⟨i + 1, by omega, by go_num, by rw [HN.out, Bool.false_or], B6⟩
                case measure => simp [intOf]; omega
              · go_wp2_with fail
                go_roundw
                case rel => exact ⟨i + 1, by omega, by go_num, by rw [HN.out, Bool.true_or], B6⟩
                case measure => simp [intOf]; omega
            · obtain rfl : i = L.length := by omega
              rw [inTo_all L q HQ.out]
              go_wp2_with fail
              go_roundw
              case rel => exact ⟨k + 1, by omega, by go_num, B6⟩
              case measure => simp [intOf]; omega
        · obtain rfl : k = keys.length := by omega
          have HST := Aside0.mk (S3.out wr (tab_below T3.out B4.out))
          have d3 : (((keys.length : Int) == 0) = true ∧ ((L.length : Int) == 0) = true) ∨ (((keys.length : Int) == 0) = false ∧ ((L.length : Int) == 0) = false) := by
            by_cases hz : keys.length = 0
            · have hz' := HN.out.2 hz
              exact .inl ⟨by simp [hz], by simp [hz']⟩
            · have hz' : ¬ L.length = 0 := fun h => hz (HN.out.1 h)
              exact .inr ⟨by simp; intro h; rw [h] at hz; exact hz rfl, by simp; intro h; rw [h] at hz'; exact hz' rfl⟩
          rcases d3 with ⟨e1, e2⟩ | ⟨e1, e2⟩
          all_goals
            go_wp2_with (first | (go_at_call 6; refine (HST.out).mono ?_; rintro e w6 ⟨rfl, hb6, hT6⟩; have B6 := Aside0.mk (below_then B4.out B4.out.size hb6); clear hb6 hT6))
            go_ret
            exact ⟨rfl, below_then B3.out B3.out.size B6.out⟩
end Go.Proofs.YtcejkpjinmolhaaDoor.Dr
