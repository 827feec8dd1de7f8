/- Trip, in both packages: the faults, few stops; every list of ways. No condition but the reach. -/
import Derived.Test.YtoopoecopahcbaaTrR
namespace Go.Proofs.Ytoopoecopahcbaa.Tr
open Go Go.RowKit Go.Proofs.YtoopoecopahcbaaW.PrintWords Go.Proofs.YtoopoecopahcbaaW.PrintLast Go.Proofs.YtoopoecopahcbaaW.PrintMore
set_option linter.unusedVariables false
set_option linter.unusedSimpArgs false
set_option maxRecDepth 100000 in
theorem ref_long (A : Option Addr) (c n : Nat) (w : World) (hn : 12 < n) (hl : n < 4611686018427387904) :
    Calls Try.prog 22 #[.slice A n c] w fun e w' => e = .returned (.tuple #[.slice none 0 0, .int .i64 0, .int .i64 1]) ∧ w = w' := by
  have h1 : decide ((12 : Int) < (n : Int)) = true := decide_eq_true (by omega)
  go_enter Try.func22, Try.ntmps22
  go_wp2_with fail
  go_ret3
  exact ⟨rfl, rfl⟩
theorem any_bad {l : List Int} (h : ∀ j, (hj : j < l.length) → goodF l[j] = true) : badRow l = false := by
  refine List.any_eq_false.2 fun x hx => ?_
  obtain ⟨j, hj, rfl⟩ := List.getElem_of_mem hx
  rw [h j hj]
  decide
set_option maxRecDepth 100000 in
set_option maxHeartbeats 8000000 in
theorem ref_bad (A : Option Addr) (c : Nat) (zs : List (List Int)) (w : World) (ha : Kd.C kRow w A zs.length zs) (hc : zs.length ≤ c) (hr : ∀ r ∈ zs, r.length < 4611686018427387904) (h12 : zs.length ≤ 12) (hg : zs.all (rowGood zs.length) = false) :
    Calls Try.prog 22 #[.slice A zs.length c] w fun e w' => e = .returned (.tuple #[.slice none 0 0, .int .i64 0, .int .i64 173]) ∧ w = w' := by
  have HA := Aside0.mk ha
  have HR := Aside0.mk hr
  have HG := Aside0.mk hg
  clear ha hr hg
  go_enter Try.func22, Try.ntmps22
  go_wp2_with fail
  go_loopw [6, 7] (fun v6 v7 wr => ∃ i : Nat, i ≤ zs.length ∧ v6 = .int .i64 i ∧ wr = w ∧ Aside0 (∀ k, (hk : k < i) → (hz : k < zs.length) → rowGood zs.length zs[k] = true)) (fun v6 _ _ => zs.length - (intOf v6).toNat)
  case atStart => exact ⟨0, Nat.zero_le _, rfl, rfl, ⟨fun k hk => by omega⟩⟩
  case round =>
    obtain ⟨i, hi, rfl, rfl, HN⟩ := hrel
    by_cases hlt : i < zs.length
    · obtain ⟨ad, D, c1, eA, hcA, hcc, hC⟩ := at_row HA.out i hlt
      have hrl := HR.out zs[i] (List.getElem_mem hlt)
      have HX := Aside0.mk (show rowGood zs.length zs[i] = (decide (zs[i].length = zs.length) && !badRow zs[i]) from rfl)
      obtain ⟨r, hrr⟩ : ∃ r, zs[i] = r := ⟨_, rfl⟩
      rw [hrr] at hcA hcc hrl HX hC
      have HE := Aside0.mk hrr
      have HC := Aside0.mk hC
      clear hrr hC
      subst eA
      have i0 : (0 : Int) ≤ (i : Int) := by omega
      have i1 : (i : Int) < (zs.length : Int) := by omega
      by_cases hle : r.length = zs.length
      · have d1 : ((r.length : Int) != (zs.length : Int)) = false := by simp [hle]
        have HL := Aside0.mk hle
        clear hle
        go_wp2_with fail
        go_loopw [7] (fun v7 wr2 => ∃ j : Nat, j ≤ zs.length ∧ v7 = .int .i64 j ∧ wr2 = wr ∧ Aside0 (∀ k, (hk : k < j) → (hz : k < r.length) → goodF r[k] = true)) (fun v7 _ => zs.length - (intOf v7).toNat)
        case atStart => exact ⟨0, Nat.zero_le _, rfl, rfl, ⟨fun k hk => by omega⟩⟩
        case round =>
          obtain ⟨j, hj, rfl, rfl, HJ⟩ := hrel
          by_cases hlj : j < zs.length
          · have hjr : j < r.length := by rw [HL.out]; exact hlj
            obtain ⟨bd, eB, cB⟩ := at_int HC.out j hjr
            obtain ⟨b, hb⟩ : ∃ b, goodF r[j] = b := ⟨_, rfl⟩
            have HB := Aside0.mk hb
            have HGF := Aside0.mk (show goodF r[j] = (decide (0 ≤ r[j]) && decide (r[j] ≤ 1000000000)) from rfl)
            obtain ⟨x, hx⟩ : ∃ x, r[j] = x := ⟨_, rfl⟩
            have HXX := Aside0.mk hx
            rw [hx] at cB HGF hb
            clear hx
            subst eB
            have j0 : (0 : Int) ≤ (j : Int) := by omega
            have j1 : (j : Int) < (zs.length : Int) := by omega
            have j2 : (j : Int) < (r.length : Int) := by omega
            cases b
            · have hx2 : (decide (0 ≤ x) && decide (x ≤ 1000000000)) = false := hb
              by_cases hx0 : x < 0
              · have d2 : decide (x < 0) = true := decide_eq_true hx0
                clear hb hx2 hx0
                go_wp2_with fail
                go_ret3
                exact ⟨rfl, rfl⟩
              · have d2 : decide (x < 0) = false := decide_eq_false hx0
                have d3 : decide ((1000000000 : Int) < x) = true := by
                  refine decide_eq_true ?_
                  simp only [Bool.and_eq_false_iff, decide_eq_false_iff_not] at hx2
                  omega
                clear hb hx2 hx0
                go_wp2_with fail
                go_ret3
                exact ⟨rfl, rfl⟩
            · have hx2 : (decide (0 ≤ x) && decide (x ≤ 1000000000)) = true := hb
              simp only [Bool.and_eq_true, decide_eq_true_eq] at hx2
              have d2 : decide (x < 0) = false := decide_eq_false (by omega)
              have d3 : decide ((1000000000 : Int) < x) = false := decide_eq_false (by omega)
              have HJ2 := Aside0.mk (show ∀ k, (hk : k < j + 1) → (hz : k < r.length) → goodF r[k] = true from fun k hk hz => by
                rcases Nat.lt_or_ge k j with h | h
                · exact HJ.out k h hz
                · obtain rfl : k = j := by omega
                  exact HB.out)
              clear hb hx2 HJ
              go_wp2_with fail
              go_roundw
              case rel => exact ⟨j + 1, by omega, by go_num, by first | rfl | trivial, HJ2⟩
              case measure => simp [intOf]; omega
          · obtain rfl : j = zs.length := by omega
            have HN2 := Aside0.mk (show ∀ k, (hk : k < i + 1) → (hz : k < zs.length) → rowGood zs.length zs[k] = true from fun k hk hz => by
              rcases Nat.lt_or_ge k i with h | h
              · exact HN.out k h hz
              · obtain rfl : k = i := by omega
                rw [HE.out, HX.out, decide_eq_true HL.out, any_bad (fun j hj => HJ.out j (by rw [← HL.out]; exact hj) hj)]
                rfl)
            clear HN
            go_wp2_with fail
            go_roundw
            case rel => exact ⟨i + 1, by omega, by go_num, by first | rfl | trivial, HN2⟩
            case measure => simp [intOf]; omega
      · have d1 : ((r.length : Int) != (zs.length : Int)) = true := bne_iff_ne.2 (fun h => hle (by omega))
        clear hle
        go_wp2_with fail
        go_ret3
        exact ⟨rfl, rfl⟩
    · obtain rfl : i = zs.length := by omega
      exfalso
      have := HG.out
      rw [List.all_eq_true.2 (fun x hx => by
        obtain ⟨j, hj, rfl⟩ := List.getElem_of_mem hx
        exact HN.out j hj hj)] at this
      cases this
set_option maxRecDepth 100000 in
set_option maxHeartbeats 8000000 in
theorem ref_few (A : Option Addr) (c : Nat) (zs : List (List Int)) (w : World) (ha : Kd.C kRow w A zs.length zs) (hc : zs.length ≤ c) (hr : ∀ r ∈ zs, r.length < 4611686018427387904) (h12 : zs.length ≤ 1) (hg : zs.all (rowGood zs.length) = true) :
    Calls Try.prog 22 #[.slice A zs.length c] w fun e w' => ∃ v, e = .returned (.tuple #[v, .int .i64 0, .int .i64 0]) ∧ (Kd.int .i64).R 3 w' w.heap.size (fun _ => True) v (List.replicate zs.length 0) ∧ Below w.heap.size w w' := by
  have HA := Aside0.mk ha
  have HR := Aside0.mk hr
  have HG := Aside0.mk hg
  clear ha hr hg
  go_enter Try.func22, Try.ntmps22
  go_wp2_with fail
  go_loopw [6, 7] (fun v6 v7 wr => ∃ i : Nat, i ≤ zs.length ∧ v6 = .int .i64 i ∧ wr = w ∧ Aside0 (∀ k, (hk : k < i) → (hz : k < zs.length) → rowGood zs.length zs[k] = true)) (fun v6 _ _ => zs.length - (intOf v6).toNat)
  case atStart => exact ⟨0, Nat.zero_le _, rfl, rfl, ⟨fun k hk => by omega⟩⟩
  case round =>
    obtain ⟨i, hi, rfl, rfl, HN⟩ := hrel
    by_cases hlt : i < zs.length
    · obtain ⟨ad, D, c1, eA, hcA, hcc, hC⟩ := at_row HA.out i hlt
      have hrl := HR.out zs[i] (List.getElem_mem hlt)
      have HX := Aside0.mk (show rowGood zs.length zs[i] = (decide (zs[i].length = zs.length) && !badRow zs[i]) from rfl)
      obtain ⟨r, hrr⟩ : ∃ r, zs[i] = r := ⟨_, rfl⟩
      rw [hrr] at hcA hcc hrl HX hC
      have HE := Aside0.mk hrr
      have HC := Aside0.mk hC
      clear hrr hC
      subst eA
      have i0 : (0 : Int) ≤ (i : Int) := by omega
      have i1 : (i : Int) < (zs.length : Int) := by omega
      by_cases hle : r.length = zs.length
      · have d1 : ((r.length : Int) != (zs.length : Int)) = false := by simp [hle]
        have HL := Aside0.mk hle
        clear hle
        go_wp2_with fail
        go_loopw [7] (fun v7 wr2 => ∃ j : Nat, j ≤ zs.length ∧ v7 = .int .i64 j ∧ wr2 = wr ∧ Aside0 (∀ k, (hk : k < j) → (hz : k < r.length) → goodF r[k] = true)) (fun v7 _ => zs.length - (intOf v7).toNat)
        case atStart => exact ⟨0, Nat.zero_le _, rfl, rfl, ⟨fun k hk => by omega⟩⟩
        case round =>
          obtain ⟨j, hj, rfl, rfl, HJ⟩ := hrel
          by_cases hlj : j < zs.length
          · have hjr : j < r.length := by rw [HL.out]; exact hlj
            obtain ⟨bd, eB, cB⟩ := at_int HC.out j hjr
            obtain ⟨b, hb⟩ : ∃ b, goodF r[j] = b := ⟨_, rfl⟩
            have HB := Aside0.mk hb
            have HGF := Aside0.mk (show goodF r[j] = (decide (0 ≤ r[j]) && decide (r[j] ≤ 1000000000)) from rfl)
            obtain ⟨x, hx⟩ : ∃ x, r[j] = x := ⟨_, rfl⟩
            have HXX := Aside0.mk hx
            rw [hx] at cB HGF hb
            clear hx
            subst eB
            have j0 : (0 : Int) ≤ (j : Int) := by omega
            have j1 : (j : Int) < (zs.length : Int) := by omega
            have j2 : (j : Int) < (r.length : Int) := by omega
            cases b
            · exfalso
              have := List.all_eq_true.1 HG.out _ (List.getElem_mem hlt)
              rw [HE.out, HX.out] at this
              simp only [Bool.and_eq_true, Bool.not_eq_true'] at this
              have h3 := List.any_eq_false.1 this.2 r[j] (List.getElem_mem hjr)
              rw [HB.out] at h3
              exact h3 rfl
            · have hx2 : (decide (0 ≤ x) && decide (x ≤ 1000000000)) = true := hb
              simp only [Bool.and_eq_true, decide_eq_true_eq] at hx2
              have d2 : decide (x < 0) = false := decide_eq_false (by omega)
              have d3 : decide ((1000000000 : Int) < x) = false := decide_eq_false (by omega)
              have HJ2 := Aside0.mk (show ∀ k, (hk : k < j + 1) → (hz : k < r.length) → goodF r[k] = true from fun k hk hz => by
                rcases Nat.lt_or_ge k j with h | h
                · exact HJ.out k h hz
                · obtain rfl : k = j := by omega
                  exact HB.out)
              clear hb hx2 HJ
              go_wp2_with fail
              go_roundw
              case rel => exact ⟨j + 1, by omega, by go_num, by first | rfl | trivial, HJ2⟩
              case measure => simp [intOf]; omega
          · obtain rfl : j = zs.length := by omega
            have HN2 := Aside0.mk (show ∀ k, (hk : k < i + 1) → (hz : k < zs.length) → rowGood zs.length zs[k] = true from fun k hk hz => by
              rcases Nat.lt_or_ge k i with h | h
              · exact HN.out k h hz
              · obtain rfl : k = i := by omega
                rw [HE.out, HX.out, decide_eq_true HL.out, any_bad (fun j hj => HJ.out j (by rw [← HL.out]; exact hj) hj)]
                rfl)
            clear HN
            go_wp2_with fail
            go_roundw
            case rel => exact ⟨i + 1, by omega, by go_num, by first | rfl | trivial, HN2⟩
            case measure => simp [intOf]; omega
      · have d1 : ((r.length : Int) != (zs.length : Int)) = true := bne_iff_ne.2 (fun h => hle (by omega))
        exfalso
        have := List.all_eq_true.1 HG.out _ (List.getElem_mem hlt)
        rw [HE.out, HX.out] at this
        simp only [Bool.and_eq_true, decide_eq_true_eq] at this
        exact hle this.1
    · obtain rfl : i = zs.length := by omega
      have hn : zs.length = 0 ∨ zs.length = 1 := by omega
      clear HN h12 hlt HG HA HR
      rcases hn with hn | hn
      · go_wp2_with fail
        go_ret3
        exact ⟨_, rfl, by first | exact Kd.R_nil _ _ _ _ _ | (rw [hn]; exact Kd.R_nil _ _ _ _ _), Below.refl _ _⟩
      · go_wp2_with fail
        go_ret3
        exact ⟨_, rfl, by first | exact R_fresh1 _ _ _ | (rw [hn]; exact R_fresh1 _ _ _), (Below.refl _ _).alloc (Nat.le_refl _) _⟩
/-- What Trip answers, for every list of ways. -/
def TA (zs : List (List Int)) (l : List Int) (m f : Int) : Prop :=
  (12 < zs.length ∧ l = [] ∧ m = 0 ∧ f = 1) ∨ (zs.length ≤ 12 ∧ zs.all (rowGood zs.length) = false ∧ l = [] ∧ m = 0 ∧ f = 173) ∨
  (zs.length ≤ 1 ∧ zs.all (rowGood zs.length) = true ∧ l = List.replicate zs.length 0 ∧ m = 0 ∧ f = 0) ∨
  (2 ≤ zs.length ∧ zs.length ≤ 12 ∧ zs.all (rowGood zs.length) = true ∧ ∃ B, DoneAll zs B ∧ l = 0 :: tourF zs B (all zs) 1 0 ∧ m = (B 1 0).1 ∧ f = 0)
def PlanPost (zs : List (List Int)) (w : World) (e : Ending) (w' : World) : Prop := ∃ v l m f, e = .returned (.tuple #[v, .int .i64 m, .int .i64 f]) ∧ (Kd.int .i64).R 3 w' w.heap.size (fun _ => True) v l ∧ TA zs l m f ∧ Below w.heap.size w w'
def RefPost (l : List Int) (m f : Int) (w : World) (e : Ending) (w' : World) : Prop := ∃ v, e = .returned (.tuple #[v, .int .i64 m, .int .i64 f]) ∧ (Kd.int .i64).R 3 w' w.heap.size (fun _ => True) v l ∧ Below w.heap.size w w'
theorem plan_any (A : Option Addr) (c : Nat) (zs : List (List Int)) (w : World) (ha : Kd.C kRow w A zs.length zs) (hc : zs.length ≤ c) (hl : zs.length < 4611686018427387904) (hr : ∀ r ∈ zs, r.length < 4611686018427387904) :
    Calls Try.prog 21 #[.slice A zs.length c] w (PlanPost zs w) := by
  rcases Nat.lt_or_ge 12 zs.length with h12 | h12
  · refine (trip_long A c zs.length w h12 hl).mono fun e w' h => ?_
    obtain ⟨rfl, rfl⟩ := h
    exact ⟨_, [], 0, 1, rfl, Kd.R_nil _ _ _ _ _, .inl ⟨h12, rfl, rfl, rfl⟩, Below.refl _ _⟩
  · cases hg : zs.all (rowGood zs.length)
    · refine (trip_bad A c zs w ha hc hr h12 hg).mono fun e w' h => ?_
      obtain ⟨rfl, rfl⟩ := h
      exact ⟨_, [], 0, 173, rfl, Kd.R_nil _ _ _ _ _, .inr (.inl ⟨h12, hg, rfl, rfl, rfl⟩), Below.refl _ _⟩
    · rcases Nat.lt_or_ge 1 zs.length with h2 | h1
      · refine (trip_calls A c zs w ha hc h2 h12 hg).mono fun e w' h => ?_
        obtain ⟨v, B, rfl, hR, hD, hb⟩ := h
        exact ⟨v, _, _, 0, rfl, hR, .inr (.inr (.inr ⟨h2, h12, hg, B, hD, rfl, rfl, rfl⟩)), hb⟩
      · refine (trip_few A c zs w ha hc hr h1 hg).mono fun e w' h => ?_
        obtain ⟨v, rfl, hR, hb⟩ := h
        exact ⟨v, _, 0, 0, rfl, hR, .inr (.inr (.inl ⟨h1, hg, rfl, rfl, rfl⟩)), hb⟩
theorem ref_any (A : Option Addr) (c : Nat) (zs : List (List Int)) (l : List Int) (m f : Int) (ht : TA zs l m f) (w : World) (ha : Kd.C kRow w A zs.length zs) (hc : zs.length ≤ c) (hl : zs.length < 4611686018427387904) (hr : ∀ r ∈ zs, r.length < 4611686018427387904) :
    Calls Try.prog 22 #[.slice A zs.length c] w (RefPost l m f w) := by
  rcases ht with ⟨h12, rfl, rfl, rfl⟩ | ⟨h12, hg, rfl, rfl, rfl⟩ | ⟨h1, hg, rfl, rfl, rfl⟩ | ⟨h2, h12, hg, B, hD, rfl, rfl, rfl⟩
  · refine (ref_long A c zs.length w h12 hl).mono fun e w' h => ?_
    obtain ⟨rfl, rfl⟩ := h
    exact ⟨_, rfl, Kd.R_nil _ _ _ _ _, Below.refl _ _⟩
  · refine (ref_bad A c zs w ha hc hr h12 hg).mono fun e w' h => ?_
    obtain ⟨rfl, rfl⟩ := h
    exact ⟨_, rfl, Kd.R_nil _ _ _ _ _, Below.refl _ _⟩
  · exact ref_few A c zs w ha hc hr h1 hg
  · exact reftrip_calls A c zs B hD w ha hc h2 h12 hg
end Go.Proofs.Ytoopoecopahcbaa.Tr
