/- Wheel: Next. No condition. -/
import Derived.Test.YtaefbibkkkglnaaWhD
import Derived.Deep.LoopGhost
namespace Go.Proofs.Ytaefbibkkkglnaa.Wh
open Go Go.RowKit Go.Proofs.YtaefbibkkkglnaaW.PrintWords Go.Proofs.Ytaefbibkkkglnaa.Mp Go.Proofs.Ytaefbibkkkglnaa.Fr
set_option linter.unusedVariables false
set_option linter.unusedSimpArgs false
section
variable {w w' : World} {O : Nat → Prop} {p : Nat} {now : Int} {l : List E} {S : Slots} {m : Nat}

def minL (b : Int) : List Node → Int
  | [] => b
  | n :: ns => minL (min b n.tm) ns
theorem minL_le : ∀ (ns : List Node) (b : Int), minL b ns ≤ b ∧ (∀ n ∈ ns, minL b ns ≤ n.tm) ∧ (minL b ns = b ∨ ∃ n ∈ ns, n.tm = minL b ns)
  | [], b => ⟨Int.le_refl _, fun n hn => by simp at hn, .inl rfl⟩
  | n :: ns, b => by
    obtain ⟨h1, h2, h3⟩ := minL_le ns (min b n.tm)
    show minL (min b n.tm) ns ≤ b ∧ _
    refine ⟨by omega, fun q hq => ?_, ?_⟩
    · rcases List.mem_cons.1 hq with rfl | hq
      · show minL (min b q.tm) ns ≤ q.tm; omega
      · exact h2 q hq
    · rcases h3 with h3 | ⟨q, hq, h3⟩
      · by_cases h : b ≤ n.tm
        · exact .inl (by show minL (min b n.tm) ns = b; omega)
        · exact .inr ⟨n, by simp, by show n.tm = minL (min b n.tm) ns; omega⟩
      · exact .inr ⟨q, by simp [hq], h3⟩

def headT (l : List E) : Int := match l with | [] => 0 | e :: _ => e.2
/-- The least time of those of the first slot of the first ring is the least of all. -/
theorem first_min {r0 k0 : Nat} {y : Node} {ys : List Node} (hg : Good now S) (h0 : 0 ≤ now) (hr : r0 < 7) (hk : k0 < 64) (hS : S r0 k0 = y :: ys) (hrs : ∀ r, r < r0 → cnt S r = 0) (hks : ∀ k, k < k0 → S r0 k = []) (hl : l.Perm ((nodes S).map ent)) (hs : Sorted l) : headT l = minL y.tm ys := by
  obtain ⟨m1, m2, m3⟩ := minL_le ys y.tm
  have hin : ∃ n ∈ S r0 k0, n.tm = minL y.tm ys := by
    rw [hS]
    rcases m3 with h | ⟨n, hn, h⟩
    · exact ⟨y, by simp, h.symm⟩
    · exact ⟨n, by simp [hn], h⟩
  have hall : ∀ n ∈ nodes S, minL y.tm ys ≤ n.tm := fun n hn => by
    obtain ⟨q, hq, hqm⟩ := hin
    obtain ⟨r, k, hr', hk', hn'⟩ := mem_nodes.1 hn
    obtain ⟨g1, g2, g3, g4⟩ := hg r k hr' hk' n hn'
    obtain ⟨q1, q2, q3, q4⟩ := hg r0 k0 hr hk q hq
    rcases Nat.lt_trichotomy r0 r with h | h | h
    · have := first_ring (now := now.toNat) (a := q.tm.toNat) (b := n.tm.toNat) (by omega) (by omega) (by unfold rg at g3 q3; omega)
      omega
    · subst h
      rcases Nat.lt_trichotomy k0 k with h | h | h
      · have := first_dig (now := now.toNat) (a := q.tm.toNat) (b := n.tm.toNat) (r := r0) q3 g3 (by unfold dg at g4 q4; omega)
        omega
      · subst h
        rw [hS] at hn'
        rcases List.mem_cons.1 hn' with rfl | h
        · exact m1
        · exact m2 n h
      · rw [hks k h] at hn'
        simp at hn'
    · rw [cnt_zero (hrs r h) k hk'] at hn'
      simp at hn'
  obtain ⟨q, hq, hqm⟩ := hin
  have hql : ent q ∈ l := hl.mem_iff.2 (List.mem_map.2 ⟨q, mem_nodes.2 ⟨r0, k0, hr, hk, hq⟩, rfl⟩)
  cases l with
  | nil => simp at hql
  | cons e l =>
    show e.2 = _
    obtain ⟨n, hn, hne⟩ := List.mem_map.1 (hl.mem_iff.1 (show e ∈ e :: l by simp))
    have h1 := hall n hn
    have h2 : e.2 = n.tm := by rw [← hne]; rfl
    have h3 : e.2 ≤ q.tm := by
      rcases List.mem_cons.1 hql with h | h
      · rw [← h]; exact Int.le_refl _
      · have := (List.pairwise_cons.1 hs).1 _ h
        simp only [lt, Bool.or_eq_true, decide_eq_true_eq, Bool.and_eq_true, beq_iff_eq] at this
        have e1 : (ent q).2 = q.tm := rfl
        omega
    omega

theorem nil_next (w : World) : Calls Try.prog 24 #[.pointer none] w fun e w' => e = .returned (.tuple #[.int .i64 0, .bool false]) ∧ w = w' := by
  go_enter Try.func24, Try.ntmps24
  go_wp2
  go_ret2
  exact ⟨rfl, rfl⟩

theorem next_none (hh : Head w p m now S) (hc : ∀ r, r < 7 → cnt S r = 0) :
    Calls Try.prog 24 #[.pointer (some ⟨p, 0, none⟩)] w fun e w' => e = .returned (.tuple #[.int .i64 0, .bool false]) ∧ w = w' := by
  have HC := Aside0.mk (show ∀ r, r < 7 → w.cell? ⟨p, 449 + r, none⟩ = some (.int .i64 0) from fun r hr => by
    rw [hh.count hr, hc r hr]; rfl)
  clear hh hc
  go_enter Try.func24, Try.ntmps24
  go_wp2_with fail
  go_loopg [4, 11] 7 (fun g v4 v11 wx => w = wx ∧ ∃ r : Nat, r ≤ 7 ∧ g = 7 - r ∧ v11 = .int .i64 r)
  case atStart => exact ⟨rfl, 0, by omega, rfl, rfl⟩
  case round =>
    obtain ⟨rfl, r, hr, rfl, rfl⟩ := hrel
    by_cases h : r < 7
    · have c1 := HC.out r h
      have i0 : (0 : Int) ≤ (r : Int) := by omega
      have i1 : (r : Int) < 7 := by omega
      go_wp2_with fail
      go_roundg (7 - (r + 1))
      case measure => omega
      case rel => exact ⟨rfl, r + 1, by omega, rfl, by go_num⟩
    · obtain rfl : r = 7 := by omega
      go_wp2_with fail
      go_ret2
      exact ⟨rfl, rfl⟩

set_option maxHeartbeats 1000000 in
theorem next_some {r0 k0 : Nat} {y : Node} {ys : List Node} (hh : Head w p m now S) (hseg : Seg w r0 none (S r0 k0) none) (hr : r0 < 7) (hk : k0 < 64) (hS : S r0 k0 = y :: ys) (hrs : ∀ r, r < r0 → cnt S r = 0) (hr0 : cnt S r0 ≠ 0) (hc : cnt S r0 ≤ 1000000) (hks : ∀ k, k < k0 → S r0 k = []) :
    Calls Try.prog 24 #[.pointer (some ⟨p, 0, none⟩)] w fun e w' => e = .returned (.tuple #[.int .i64 (minL y.tm ys), .bool true]) ∧ w = w' := by
  have HC := Aside0.mk (show ∀ r, r < r0 → w.cell? ⟨p, 449 + r, none⟩ = some (.int .i64 0) from fun r h => by
    rw [hh.count (by omega), hrs r h]; rfl)
  have HD := Aside0.mk (hh.count hr)
  have HK := Aside0.mk (show ∀ k, k < k0 → w.cell? ⟨p, 1 + r0 * 64 + k, none⟩ = some (.pointer none) from fun k h => by
    rw [show 1 + r0 * 64 + k = 1 + 64 * r0 + k from by omega, hh.slot hr (by omega), hks k h]; rfl)
  have HE := Aside0.mk (show w.cell? ⟨p, 1 + r0 * 64 + k0, none⟩ = some (.pointer (some ⟨y.b, 0, none⟩)) from by
    rw [show 1 + r0 * 64 + k0 = 1 + 64 * r0 + k0 from by omega, hh.slot hr hk, hS]; rfl)
  rw [hS] at hseg
  obtain ⟨hy, hys⟩ := hseg
  obtain ⟨_, y1, _, _, y4, _⟩ := hy.c
  have HY := Aside0.mk hys
  have hn0 : ((cnt S r0 : Int) == 0) = false := beq_eq_false_iff_ne.2 (by omega)
  clear hh hrs hks hS hy hys hr0
  generalize cnt S r0 = c at *
  go_enter Try.func24, Try.ntmps24
  go_wp2_with fail
  go_loopg [4, 11] 7 (fun g v4 v11 wx => w = wx ∧ ∃ r : Nat, r ≤ r0 ∧ g = 7 - r ∧ v11 = .int .i64 r)
  case atStart => exact ⟨rfl, 0, by omega, rfl, rfl⟩
  case round =>
    obtain ⟨rfl, r, hr', rfl, rfl⟩ := hrel
    have i0 : (0 : Int) ≤ (r : Int) := by omega
    have i1 : (r : Int) < 7 := by omega
    by_cases h : r < r0
    · have c1 := HC.out r h
      go_wp2_with fail
      go_roundg (7 - (r + 1))
      case measure => omega
      case rel => exact ⟨rfl, r + 1, by omega, rfl, by go_num⟩
    · obtain rfl : r = r0 := by omega
      have c1 := HD.out
      go_wp2_with fail
      go_loopg [5, 21] 64 (fun g v5 v21 wx => w = wx ∧ ∃ k : Nat, k ≤ k0 ∧ g = 64 - k ∧ v21 = .int .i64 k)
      case atStart => exact ⟨rfl, 0, by omega, rfl, rfl⟩
      case round =>
        obtain ⟨rfl, k, hk', rfl, rfl⟩ := hrel
        have j0 : (0 : Int) ≤ (k : Int) := by omega
        have j1 : (k : Int) < 64 := by omega
        by_cases h2 : k < k0
        · have c2 := HK.out k h2
          go_wp2_with fail
          go_roundg (64 - (k + 1))
          case measure => omega
          case rel => exact ⟨rfl, k + 1, by omega, rfl, by go_num⟩
        · obtain rfl : k = k0 := by omega
          have c2 := HE.out
          obtain ⟨x4, e4⟩ : ∃ x4, hd none ys = x4 := ⟨_, rfl⟩
          have y4' : w.cell? ⟨y.b, 4, none⟩ = some (.pointer (x4.map fun b => ⟨b, 0, none⟩)) := by rw [← e4]; exact y4
          have E4 := Aside0.mk e4
          clear y4 e4
          generalize hx5 : (x4.map fun b => (⟨b, 0, none⟩ : Addr)) = x5 at y4'
          have E5 := Aside0.mk hx5
          clear hx5
          have HM := Aside0.mk (rfl : minL y.tm ys = minL y.tm ys)
          generalize hM : minL y.tm ys = M at HM ⊢
          clear HM
          have HM := Aside0.mk hM
          clear hM
          go_wp2_with fail
          go_loopg [7, 8] ys.length (fun g v7 v8 wx => w = wx ∧ ∃ (cur : Int) (rest : List Node) (pv : Option Nat), g = rest.length ∧ v7 = .int .i64 cur ∧ v8 = ptr (hd none rest) ∧ Aside0 (Seg w r pv rest none) ∧ Aside0 (minL cur rest = M))
          case atStart => exact ⟨rfl, y.tm, ys, some y.b, rfl, rfl, by rw [E4.out, ← E5.out]; rfl, HY, HM⟩
          case round =>
            obtain ⟨rfl, cur, rest, pv, rfl, rfl, e8, HS, HC2⟩ := hrel
            cases rest with
            | nil =>
              obtain rfl : _ = Value.pointer none := e8
              have HM2 := Aside0.mk (show cur = M from HC2.out)
              go_wp2_with fail
              go_ret2
              exact ⟨by show Ending.returned (.tuple #[.int .i64 cur, .bool true]) = _; rw [HM2.out, ← HM.out], rfl⟩
            | cons z zs =>
              obtain rfl : _ = Value.pointer (some ⟨z.b, 0, none⟩) := e8
              obtain ⟨hz, hzs⟩ := HS.out
              obtain ⟨_, z1, _, _, z4, _⟩ := hz.c
              have HZ := Aside0.mk hzs
              clear hz hzs
              obtain ⟨x6, e6⟩ : ∃ x6, ptr (hd none zs) = .pointer x6 := ⟨_, rfl⟩
              rw [e6] at z4
              have E6 := Aside0.mk e6
              clear e6
              go_wp2_with fail
              all_goals
                go_roundg zs.length
                case measure => simp
                case rel => exact ⟨rfl, _, zs, some z.b, rfl, rfl, E6.out.symm, HZ, ⟨by rw [← HC2.out]; show minL _ zs = minL (min cur z.tm) zs; congr 1; omega⟩⟩

theorem least_such (P : Nat → Prop) [DecidablePred P] : ∀ n, (∃ i, i < n ∧ P i) → ∃ i, i < n ∧ P i ∧ ∀ j, j < i → ¬ P j
  | 0, ⟨i, hi, _⟩ => absurd hi (Nat.not_lt_zero _)
  | n + 1, ⟨i, hi, hp⟩ => by
    by_cases h : ∃ j, j < n ∧ P j
    · obtain ⟨j, hj, hpj, hl⟩ := least_such P n h
      exact ⟨j, by omega, hpj, hl⟩
    · have : i = n := by
        rcases Nat.lt_or_ge i n with h1 | h1
        · exact absurd ⟨i, h1, hp⟩ h
        · omega
      subst this
      exact ⟨i, by omega, hp, fun j hj hpj => h ⟨j, hj, hpj⟩⟩
theorem next_calls (h : Whl w O p now l) : Calls Try.prog 24 #[.pointer (some ⟨p, 0, none⟩)] w fun e w' => e = .returned (.tuple #[.int .i64 (headT l), .bool (decide (0 < l.length))]) ∧ w = w' := by
  obtain ⟨⟨m, S, h1, h2, h3⟩, a1, a2, a3, a4, a5, a6⟩ := h
  have hll := h3.length_eq
  simp at hll
  by_cases h0 : ∃ r, r < 7 ∧ cnt S r ≠ 0
  · obtain ⟨r0, hr, hc, hrs⟩ := least_such (fun r => cnt S r ≠ 0) 7 h0
    have h0k : ∃ k, k < 64 ∧ (S r0 k).length ≠ 0 := by
      refine Classical.byContradiction fun hk => hc ?_
      have : row (S r0) = [] := by
        unfold row
        rw [List.flatMap_eq_nil_iff]
        intro k hk'
        refine Classical.byContradiction fun hne => hk ⟨k, by simpa using hk', fun e => hne (List.eq_nil_of_length_eq_zero e)⟩
      unfold cnt
      rw [this]
      rfl
    obtain ⟨k0, hk, hne, hks⟩ := least_such (fun k => (S r0 k).length ≠ 0) 64 h0k
    cases hS : S r0 k0 with
    | nil => rw [hS] at hne; simp at hne
    | cons y ys =>
      have e1 := first_min (l := l) h2 a1 hr hk hS (fun r hr' => by have := hrs r hr'; omega) (fun k hk' => List.eq_nil_of_length_eq_zero (by have := hks k hk'; omega)) h3 a3
      have e2 : 0 < l.length := by
        have := cnt_le (S := S) hr
        omega
      rw [e1, decide_eq_true e2]
      have := cnt_le (S := S) hr
      exact next_some h1.head (h1.seg r0 k0 hr hk) hr hk hS (fun r hr' => by have := hrs r hr'; omega) hc (by omega) (fun k hk' => List.eq_nil_of_length_eq_zero (by have := hks k hk'; omega))
  · have hall : ∀ r, r < 7 → cnt S r = 0 := fun r hr => Classical.byContradiction fun hne => h0 ⟨r, hr, hne⟩
    have hl0 : l = [] := by
      have : nodes S = [] := by
        unfold nodes
        rw [List.flatMap_eq_nil_iff]
        intro r hr
        exact List.eq_nil_of_length_eq_zero (hall r (by simpa using hr))
      rw [this] at hll
      exact List.eq_nil_of_length_eq_zero (by simpa using hll)
    subst hl0
    exact next_none h1.head hall
end
end Go.Proofs.Ytaefbibkkkglnaa.Wh
