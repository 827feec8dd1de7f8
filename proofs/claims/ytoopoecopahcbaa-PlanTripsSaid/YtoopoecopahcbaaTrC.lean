/- plan.Trip. No condition. -/
import Derived.Test.YtoopoecopahcbaaTrP
namespace Go.Proofs.Ytoopoecopahcbaa.Tr
open Go Go.RowKit Go.Proofs.YtoopoecopahcbaaW.PrintWords Go.Proofs.YtoopoecopahcbaaW.PrintLast Go.Proofs.YtoopoecopahcbaaW.PrintMore
open Go.Proofs.Ytoopoecopahcbaa.Fl (pwithin_calls)
set_option linter.unusedVariables false
set_option linter.unusedSimpArgs false

def isZ : Value → Bool | .int .i64 n => n == 0 | _ => false
def zz (n : Nat) (z : Option Value) : Bool := match z with | some (.agg ⟨l⟩) => l.length == n && l.all isZ | _ => false
theorem zz_info : ((Try.prog.info? 108).map (fun i => (zz 98304 i.zero, i.size))) = some (true, 98304) := by kernel_rfl
theorem isZ_eq {v : Value} (h : isZ v = true) : v = .int .i64 0 := by
  cases v with
  | int k n => cases k <;> simp [isZ] at h; rw [h]
  | _ => cases h
theorem zero_best : ∃ cs0 : Array Value, (∀ w, (zeroValue 108).run Try.prog w = .ok (.agg cs0) w) ∧ cs0.size = 98304 ∧ ∀ i < 98304, cs0[i]? = some (.int .i64 0) := by
  have h := zz_info
  cases hq : Try.prog.info? 108 with
  | none => rw [hq] at h; cases h
  | some i =>
    rw [hq] at h
    simp only [Option.map_some, Option.some.injEq, Prod.mk.injEq] at h
    obtain ⟨h1, h2⟩ := h
    cases hz : i.zero with
    | none => rw [hz] at h1; cases h1
    | some v =>
      rw [hz] at h1
      cases v with
      | agg cs =>
        obtain ⟨l⟩ := cs
        unfold zz at h1
        simp only [Bool.and_eq_true, beq_iff_eq] at h1
        refine ⟨⟨l⟩, fun w => ?_, h1.1, fun j hj => ?_⟩
        · simp [zeroValue, typeInfo, hq, hz]
        · have hj' : j < l.length := by omega
          show l.toArray[j]? = _
          rw [List.getElem?_toArray, List.getElem?_eq_getElem hj', isZ_eq (List.all_eq_true.1 h1.2 _ (List.getElem_mem hj'))]
      | _ => simp [zz] at h1
abbrev kRow : Kd (List Int) := Kd.slice 3 (Kd.int .i64)
theorem at_row {w : World} {A : Option Addr} {xs : List (List Int)} (h : Kd.C kRow w A xs.length xs) (i : Nat) (hi : i < xs.length) : ∃ ad B c, A = some ad ∧ w.cell? (ad.add i) = some (.slice B xs[i].length c) ∧ xs[i].length ≤ c ∧ Kd.C (Kd.int .i64) w B xs[i].length xs[i] := by
  obtain ⟨ad, c, e, _, hK, hc⟩ := Kd.C_get h [] (i : Int) (by omega) (by omega)
  rw [Int.toNat_natCast] at *
  rw [show xs.getD i [] = xs[i] by rw [List.getD_eq_getElem?_getD, List.getElem?_eq_getElem hi]; rfl] at hK
  obtain ⟨B, c4, rfl, hcap, hC⟩ := hK
  refine ⟨ad, B, c4, e, ?_, hcap, hC⟩
  have := hc 0 _ rfl
  simpa [Kd.slice] using this
def rowGood (n : Nat) (r : List Int) : Bool := decide (r.length = n) && !badRow r
def tripFault (zs : List (List Int)) : Int := if zs.length > 12 then 1 else if zs.all (rowGood zs.length) = true then 0 else 173
theorem R_fresh1 (w : World) (x : Int) (t : TypeId) : (Kd.int .i64).R t (w.alloc (.cells #[.int .i64 x] t (0, 0))) w.heap.size (fun _ => True) (.slice (some ⟨w.heap.size, 0, none⟩) 1 1) [x] :=
  Kd.R_of_own (enc := Value.int .i64) ⟨rfl, .inr ⟨w.heap.size, 1, #[.int .i64 x], rfl, Nat.le_refl _, heap_alloc_new _ _, Nat.le_refl _, by decide, rfl, rfl⟩⟩ (fun _ _ => trivial)
/-- Too many stops. -/
theorem trip_long (A : Option Addr) (c n : Nat) (w : World) (hn : 12 < n) (hl : n < 4611686018427387904) :
    Calls Try.prog 21 #[.slice A n c] w fun e w' => e = .returned (.tuple #[.slice none 0 0, .int .i64 0, .int .i64 1]) ∧ w = w' := by
  have h1 : decide ((12 : Int) < (n : Int)) = true := decide_eq_true (by omega)
  go_enter Try.func21, Try.ntmps21
  go_wp2_with fail
  go_ret3
  exact ⟨rfl, rfl⟩
set_option maxRecDepth 100000 in
set_option maxHeartbeats 4000000 in
theorem trip_bad (A : Option Addr) (c : Nat) (zs : List (List Int)) (w : World) (ha : Kd.C kRow w A zs.length zs) (hc : zs.length ≤ c) (hr : ∀ r ∈ zs, r.length < 4611686018427387904) (h12 : zs.length ≤ 12) (hg : zs.all (rowGood zs.length) = false) :
    Calls Try.prog 21 #[.slice A zs.length c] w fun e w' => e = .returned (.tuple #[.slice none 0 0, .int .i64 0, .int .i64 173]) ∧ w = w' := by
  have HA := Aside0.mk ha
  have HR := Aside0.mk hr
  have HG := Aside0.mk hg
  clear ha hr hg
  go_enter Try.func21, Try.ntmps21
  go_wp2_with fail
  go_loop [7, 23] (fun v7 v23 => ∃ k : Nat, k ≤ zs.length ∧ v23 = .int .i64 k ∧ Aside0 (∀ j, (hj : j < k) → (hk : j < zs.length) → rowGood zs.length zs[j] = true)) (fun _ v23 => zs.length - (intOf v23).toNat)
  case atStart => exact ⟨0, Nat.zero_le _, rfl, ⟨fun j hj => by omega⟩⟩
  case round =>
    obtain ⟨k, hk, rfl, HN⟩ := hrel
    by_cases hlt : k < zs.length
    · obtain ⟨ad, B, c1, eA, hcA, hcc, hC⟩ := at_row HA.out k hlt
      have hrl := HR.out zs[k] (List.getElem_mem hlt)
      have HC := Aside0.mk (contains_calls B c1 zs[k] w hC hcc hrl)
      obtain ⟨b, hb⟩ : ∃ b, rowGood zs.length zs[k] = b := ⟨_, rfl⟩
      have HB := Aside0.mk hb
      have HX := Aside0.mk (show rowGood zs.length zs[k] = (decide (zs[k].length = zs.length) && !badRow zs[k]) from rfl)
      clear hC hb
      obtain ⟨r, hr⟩ : ∃ r, zs[k] = r := ⟨_, rfl⟩
      rw [hr] at hcA hcc hrl HC HB HX
      have HB' := Aside0.mk hr
      clear hr
      subst eA
      have i0 : (0 : Int) ≤ (k : Int) := by omega
      have i1 : (k : Int) < (zs.length : Int) := by omega
      have hrb : (decide (r.length = zs.length) && !badRow r) = b := HX.out.symm.trans HB.out
      obtain ⟨b1, hb1⟩ : ∃ b1, badRow r = b1 := ⟨_, rfl⟩
      rw [hb1] at HC hrb
      clear hb1
      by_cases hle : r.length = zs.length
      · have d1 : ((r.length : Int) != (zs.length : Int)) = false := by simp [hle]
        rw [decide_eq_true hle] at hrb
        have HL := Aside0.mk hle
        clear hle
        cases b1
        · obtain rfl : b = true := by simpa using hrb.symm
          have HN2 := Aside0.mk (show ∀ j, (hj : j < k + 1) → (hk : j < zs.length) → rowGood zs.length zs[j] = true from fun j hj hk' => by
            rcases Nat.lt_or_ge j k with h | h
            · exact HN.out j h hk'
            · obtain rfl : j = k := by omega
              rw [HB'.out]; exact HB.out)
          clear HN hrb
          go_wp2_with (first | (go_at_call 49; refine (HC.out).mono ?_; rintro e w1 ⟨rfl, rfl⟩))
          go_round
          case rel => exact ⟨k + 1, by omega, by go_num, HN2⟩
          case measure => simp [intOf]; omega
        · clear HN hrb
          go_wp2_with (first | (go_at_call 49; refine (HC.out).mono ?_; rintro e w1 ⟨rfl, rfl⟩))
          go_ret3
          exact ⟨rfl, rfl⟩
      · have d1 : ((r.length : Int) != (zs.length : Int)) = true := by
          refine bne_iff_ne.2 fun h => hle ?_
          omega
        clear hle
        clear HN hrb
        go_wp2_with fail
        go_ret3
        exact ⟨rfl, rfl⟩
    · obtain rfl : k = zs.length := by omega
      exfalso
      have := HG.out
      rw [List.all_eq_true.2 (fun x hx => by
        obtain ⟨j, hj, rfl⟩ := List.getElem_of_mem hx
        exact HN.out j hj hj)] at this
      cases this
set_option maxRecDepth 100000 in
set_option maxHeartbeats 4000000 in
theorem trip_few (A : Option Addr) (c : Nat) (zs : List (List Int)) (w : World) (ha : Kd.C kRow w A zs.length zs) (hc : zs.length ≤ c) (hr : ∀ r ∈ zs, r.length < 4611686018427387904) (h1 : zs.length ≤ 1) (hg : zs.all (rowGood zs.length) = true) :
    Calls Try.prog 21 #[.slice A zs.length c] w fun e w' => ∃ v, e = .returned (.tuple #[v, .int .i64 0, .int .i64 0]) ∧ (Kd.int .i64).R 3 w' w.heap.size (fun _ => True) v (List.replicate zs.length 0) ∧ Below w.heap.size w w' := by
  have HA := Aside0.mk ha
  have HR := Aside0.mk hr
  have HG := Aside0.mk hg
  clear ha hr hg
  have h12 : zs.length ≤ 12 := by omega
  go_enter Try.func21, Try.ntmps21
  go_wp2_with fail
  go_loop [7, 23] (fun v7 v23 => ∃ k : Nat, k ≤ zs.length ∧ v23 = .int .i64 k ∧ Aside0 (∀ j, (hj : j < k) → (hk : j < zs.length) → rowGood zs.length zs[j] = true)) (fun _ v23 => zs.length - (intOf v23).toNat)
  case atStart => exact ⟨0, Nat.zero_le _, rfl, ⟨fun j hj => by omega⟩⟩
  case round =>
    obtain ⟨k, hk, rfl, HN⟩ := hrel
    by_cases hlt : k < zs.length
    · obtain ⟨ad, B, c1, eA, hcA, hcc, hC⟩ := at_row HA.out k hlt
      have hrl := HR.out zs[k] (List.getElem_mem hlt)
      have HC := Aside0.mk (contains_calls B c1 zs[k] w hC hcc hrl)
      obtain ⟨b, hb⟩ : ∃ b, rowGood zs.length zs[k] = b := ⟨_, rfl⟩
      have HB := Aside0.mk hb
      have HX := Aside0.mk (show rowGood zs.length zs[k] = (decide (zs[k].length = zs.length) && !badRow zs[k]) from rfl)
      clear hC hb
      obtain ⟨r, hr⟩ : ∃ r, zs[k] = r := ⟨_, rfl⟩
      rw [hr] at hcA hcc hrl HC HB HX
      have HB' := Aside0.mk hr
      clear hr
      subst eA
      have i0 : (0 : Int) ≤ (k : Int) := by omega
      have i1 : (k : Int) < (zs.length : Int) := by omega
      have hrb : (decide (r.length = zs.length) && !badRow r) = b := HX.out.symm.trans HB.out
      obtain ⟨b1, hb1⟩ : ∃ b1, badRow r = b1 := ⟨_, rfl⟩
      rw [hb1] at HC hrb
      clear hb1
      by_cases hle : r.length = zs.length
      · have d1 : ((r.length : Int) != (zs.length : Int)) = false := by simp [hle]
        rw [decide_eq_true hle] at hrb
        have HL := Aside0.mk hle
        clear hle
        cases b1
        · obtain rfl : b = true := by simpa using hrb.symm
          have HN2 := Aside0.mk (show ∀ j, (hj : j < k + 1) → (hk : j < zs.length) → rowGood zs.length zs[j] = true from fun j hj hk' => by
            rcases Nat.lt_or_ge j k with h | h
            · exact HN.out j h hk'
            · obtain rfl : j = k := by omega
              rw [HB'.out]; exact HB.out)
          clear HN hrb
          go_wp2_with (first | (go_at_call 49; refine (HC.out).mono ?_; rintro e w1 ⟨rfl, rfl⟩))
          go_round
          case rel => exact ⟨k + 1, by omega, by go_num, HN2⟩
          case measure => simp [intOf]; omega
        · exfalso
          have := List.all_eq_true.1 HG.out _ (List.getElem_mem hlt)
          rw [HB'.out, HB.out] at this
          rw [this] at hrb
          cases hrb
      · have d1 : ((r.length : Int) != (zs.length : Int)) = true := by
          refine bne_iff_ne.2 fun h => hle ?_
          omega
        exfalso
        have := List.all_eq_true.1 HG.out _ (List.getElem_mem hlt)
        rw [HB'.out, HX.out] at this
        simp only [Bool.and_eq_true, decide_eq_true_eq] at this
        exact hle this.1
    · obtain rfl : k = zs.length := by omega
      have hn : zs.length = 0 ∨ zs.length = 1 := by omega
      clear HN h1 h12 hlt HG HA HR
      rcases hn with hn | hn
      · go_wp2_with fail
        go_ret3
        exact ⟨_, rfl, Kd.R_nil _ _ _ _ _, Below.refl _ _⟩
      · go_wp2_with fail
        go_ret3
        exact ⟨_, rfl, R_fresh1 _ _ _, (Below.refl _ _).alloc (Nat.le_refl _) _⟩
end Go.Proofs.Ytoopoecopahcbaa.Tr
