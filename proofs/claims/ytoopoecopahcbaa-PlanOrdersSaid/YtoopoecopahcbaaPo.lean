/- PlanOrders: whatever five numbers come in, the law answers true. No condition. -/
import Derived.Test.YtoopoecopahcbaaQPlanOrdersx2
import Derived.Test.YtoopoecopahcbaaQPlanOrdersx1
import Derived.Test.YtoopoecopahcbaaQwithinx1
import Derived.IntWalk
import Derived.Outline
import Derived.RegionTactic
import Derived.ChangeAlike
namespace Go.Proofs.Ytoopoecopahcbaa.Po
set_option linter.unusedVariables false
set_option linter.unusedSimpArgs false
open Go.RowKit Go.Proofs.Ytoopoecopahcbaa.Qwithin Go.Proofs.Ytoopoecopahcbaa.QPlanOrders Go.Proofs.YtoopoecopahcbaaW.PrintWords Go.Proofs.YtoopoecopahcbaaW.PrintLast

theorem po_wrap (x : Int) (h0 : -9223372036854775808 ≤ x) (h1 : x ≤ 9223372036854775807) : wrap64 x = x := by unfold wrap64; omega

theorem po_bounds {a : Int} (h : (Lit.int .i64 a).wf = true) : -9223372036854775808 ≤ a ∧ a ≤ 9223372036854775807 := by
  simpa [Lit.wf, IntKind.min, IntKind.max, IntKind.bits, IntKind.signed] using h

theorem po_within (a lo hi : Int) (ha : (Lit.int .i64 a).wf = true) (h0 : 0 ≤ lo) (h1 : lo ≤ hi) (h2 : hi ≤ 4294967296) :
    ∃ x, larderlaw17_within.f a lo hi = some x ∧ lo ≤ x ∧ x ≤ hi := by
  obtain ⟨ha0, ha1⟩ := po_bounds ha
  have e1 : wrap64 (hi - lo) = hi - lo := po_wrap _ (by omega) (by omega)
  have e2 : wrap64 (hi - lo + 1) = hi - lo + 1 := po_wrap _ (by omega) (by omega)
  have key : ∀ b : Int, 0 ≤ b → ∃ x, some (wrap64 (lo + Int.tmod b (hi - lo + 1))) = some x ∧ lo ≤ x ∧ x ≤ hi := by
    intro b hb
    have t0 : Int.tmod b (hi - lo + 1) = b % (hi - lo + 1) := Int.tmod_eq_emod_of_nonneg hb
    have t1 := Int.emod_nonneg b (show hi - lo + 1 ≠ 0 by omega)
    have t2 := Int.emod_lt_of_pos b (show 0 < hi - lo + 1 by omega)
    rw [t0]
    refine ⟨_, rfl, ?_⟩
    rw [po_wrap _ (by omega) (by omega)]
    omega
  unfold larderlaw17_within.f
  rw [e1, e2]
  split
  · rw [if_neg (by omega)]
    have e3 : wrap64 (a + 1) = a + 1 := po_wrap _ (by omega) (by omega)
    have e4 : wrap64 (-(a + 1)) = -(a + 1) := po_wrap _ (by omega) (by omega)
    rw [e3, e4]
    exact key _ (by omega)
  · rw [if_neg (by omega)]
    exact key _ (by omega)

theorem po_pack (t k : Int) (h0 : 0 ≤ t) (hk : 1 ≤ k) : t / k * k ≤ t ∧ t < t / k * k + k ∧ 0 ≤ t / k * k ∧ Int.tmod (t / k * k) k = 0 ∧ 0 ≤ t / k ∧ t / k ≤ t := by
  have e := Int.mul_ediv_add_emod t k
  have m0 := Int.emod_nonneg t (show k ≠ 0 by omega)
  have m1 := Int.emod_lt_of_pos t (show 0 < k by omega)
  have q0 : 0 ≤ t / k := Int.ediv_nonneg h0 (by omega)
  have q1 : t / k ≤ t := Int.ediv_le_self _ h0
  rw [Int.mul_comm] at e
  have p0 : 0 ≤ t / k * k := Int.mul_nonneg q0 (by omega)
  refine ⟨by omega, by omega, p0, ?_, q0, q1⟩
  rw [Int.tmod_eq_emod_of_nonneg p0]
  exact Int.mul_emod_left _ _

def poLines (c : ByteArray) (n p u k : Int) : List S33 := if n ≤ p ∧ n < u then [⟨c, (u - n + k - 1) / k * k⟩] else []

theorem po_in (x lo : Int) (h0 : lo ≤ x) (h1 : x ≤ 1099511627776) : plan_within.f x lo 1099511627776 = some true := by
  unfold plan_within.f
  rw [if_pos h0, decide_eq_true h1]

theorem po_restock (m : Nat) (c : ByteArray) (hc : c.size = 1) (h g p u k : Int) (h1 : 0 ≤ h ∧ h ≤ 4294967296) (h2 : 0 ≤ g ∧ g ≤ 4294967296) (h3 : 0 ≤ p ∧ p ≤ 4294967296) (h4 : 0 ≤ u ∧ u ≤ 4294967296) (h5 : 1 ≤ k ∧ k ≤ 4294967296) :
    plan_Restock.f (m + 5) [⟨c, h, g, p, u, k⟩] = some (poLines c (h + g) p u k, 0, 0) := by
  have r0 : rd_T24 [(⟨c, h, g, p, u, k⟩ : S24)] 0 = ⟨c, h, g, p, u, k⟩ := rfl
  have w1 : wrap64 (h + g) = h + g := po_wrap _ (by omega) (by omega)
  have w2 : wrap64 (0 + 1) = 1 := by unfold wrap64; omega
  have code : plan_isCode.f c = some true := by
    unfold plan_isCode.f
    rw [if_pos (by omega), decide_eq_true (by omega)]
  have last : ∀ l : List S33, plan_Restock.l0 (m + 2) [(⟨c, h, g, p, u, k⟩ : S24)] l [(⟨c, h, g, p, u, k⟩ : S24)] 1 1 = some (l, 0, 0) := by
    intro l
    rw [plan_Restock.l0, if_neg (by omega)]
  unfold plan_Restock.f
  rw [if_neg (by simp)]
  show plan_Restock.l0 (m + 4 + 1) _ _ _ 1 0 = _
  rw [plan_Restock.l0, if_pos (by omega), if_pos (by omega), if_pos (by simp), r0]
  simp only [po_in h 0 h1.1 (by omega), po_in g 0 h2.1 (by omega), po_in p 0 h3.1 (by omega), po_in u 0 h4.1 (by omega), po_in k 1 h5.1 (by omega), Option.bind_some, if_true]
  rw [plan_Restock.j1, if_pos rfl, code]
  simp only [Option.bind_some, if_true]
  rw [if_neg (by omega), plan_Restock.j2, if_neg (by simp), w1, w2]
  unfold poLines
  by_cases a1 : h + g ≤ p
  · rw [if_pos a1]
    by_cases a2 : h + g < u
    · rw [if_pos a2, if_neg (by omega), if_pos (by simp), last, if_pos ⟨a1, a2⟩]
      have t0 : 0 ≤ u - (h + g) + k - 1 := by omega
      have t1 : u - (h + g) + k - 1 ≤ 8589934592 := by omega
      have v1 : wrap64 (u - (h + g)) = u - (h + g) := po_wrap _ (by omega) (by omega)
      have v2 : wrap64 (u - (h + g) + k) = u - (h + g) + k := po_wrap _ (by omega) (by omega)
      have v3 : wrap64 (u - (h + g) + k - 1) = u - (h + g) + k - 1 := po_wrap _ (by omega) (by omega)
      rw [v1, v2, v3, Int.tdiv_eq_ediv_of_nonneg t0]
      obtain ⟨b1, b2, b3, _, b5, b6⟩ := po_pack _ k t0 h5.1
      rw [po_wrap ((u - (h + g) + k - 1) / k) (by omega) (by omega), po_wrap _ (by omega) (by omega)]
      rfl
    · rw [if_neg a2, last, if_neg (fun z => a2 z.2)]
  · rw [if_neg a1, last, if_neg (fun z => a1 z.1)]


theorem bcell {W w1 : World} (hb : Below W.heap.size W w1) : (∀ b o, b < W.heap.size → w1.cell? ⟨b, o, none⟩ = W.cell? ⟨b, o, none⟩) ∧ (∀ b o, b < W.heap.size → w1.frozen? ⟨b, o, none⟩ = W.frozen? ⟨b, o, none⟩) :=
  ⟨fun b o h => hb.cell (p := ⟨b, o, none⟩) h, fun b o h => hb.frozen (p := ⟨b, o, none⟩) h⟩

theorem within_calls (a lo hi : Int) (w : World) (ha : (Lit.int .i64 a).wf = true) (h0 : 0 ≤ lo) (h1 : lo ≤ hi) (h2 : hi ≤ 4294967296) :
    ∃ x, lo ≤ x ∧ x ≤ hi ∧ ∀ w, Calls Try.prog 17 #[.int .i64 a, .int .i64 lo, .int .i64 hi] w fun e w' => e = .returned (.int .i64 x) ∧ Drawn0 w w' := by
  obtain ⟨x, hx, b0, b1⟩ := po_within a lo hi ha h0 h1 h2
  exact ⟨x, b0, b1, fun w => larderlaw17_within.calls a lo hi x w hx⟩

def item (c : ByteArray) (h g p u k : Int) : S24 := ⟨c, h, g, p, u, k⟩
theorem item_reads (b : Nat) (c : ByteArray) (h g p u k : Int) (w : World) (k0 : w.cell? ⟨b, 0, none⟩ = some (.string c)) (k1 : w.cell? ⟨b, 1, none⟩ = some (.int .i64 h)) (k2 : w.cell? ⟨b, 2, none⟩ = some (.int .i64 g)) (k3 : w.cell? ⟨b, 3, none⟩ = some (.int .i64 p)) (k4 : w.cell? ⟨b, 4, none⟩ = some (.int .i64 u)) (k5 : w.cell? ⟨b, 5, none⟩ = some (.int .i64 k)) :
    Kd.C k24 w (some ⟨b, 0, none⟩) ([(⟨c, h, g, p, u, k⟩ : S24)] : List S24).length [(⟨c, h, g, p, u, k⟩ : S24)] := by
  refine ⟨rfl, by simp, fun _ => ⟨_, rfl, fun j q hj => ?_⟩⟩
  have hj0 : j = 0 := by
    rcases Nat.eq_zero_or_pos j with h | h
    · exact h
    · rw [List.getElem?_eq_none (by simp; omega)] at hj
      cases hj
  subst hj0
  have hq : (⟨c, h, g, p, u, k⟩ : S24) = q := by simpa using hj
  subst hq
  refine ⟨_, rfl, k24_mk w _, fun i u' hi => ?_⟩
  have hi6 : i < 6 := (List.getElem?_eq_some_iff.1 hi).1
  have e : ((⟨b, 0, none⟩ : Addr).add (0 * k24.sz + i)) = ⟨b, i, none⟩ := by rw [Nat.zero_mul, Nat.zero_add, add_plain]
  rw [e]
  match i, hi6, hi with
  | 0, _, hi => cases hi; exact k0
  | 1, _, hi => cases hi; exact k1
  | 2, _, hi => cases hi; exact k2
  | 3, _, hi => cases hi; exact k3
  | 4, _, hi => cases hi; exact k4
  | 5, _, hi => cases hi; exact k5

theorem qty (n k : Int) (hn : 0 ≤ n) (hk : 1 ≤ k) : ∃ q : Int, (n + k - 1) / k * k = q ∧ n ≤ q ∧ q - k < n ∧ q % k = 0 ∧ Int.tmod q k = 0 ∧ 0 ≤ q := by
  refine ⟨_, rfl, ?_, ?_, Int.mul_emod_left _ _, Int.mul_tmod_left _ _, ?_⟩
  · have := Int.emod_add_mul_ediv (n + k - 1) k
    have := Int.emod_lt_of_pos (n + k - 1) (show 0 < k by omega)
    have e : (n + k - 1) / k * k = k * ((n + k - 1) / k) := Int.mul_comm _ _
    omega
  · have := Int.emod_add_mul_ediv (n + k - 1) k
    have := Int.emod_nonneg (n + k - 1) (show k ≠ 0 by omega)
    have e : (n + k - 1) / k * k = k * ((n + k - 1) / k) := Int.mul_comm _ _
    omega
  · exact Int.mul_nonneg (Int.ediv_nonneg (by omega) (by omega)) (by omega)

section
variable (b : Nat) (c : ByteArray) (hc : c.size = 1) (h g p u k : Int) (w : World) (k0 : w.cell? ⟨b, 0, none⟩ = some (.string c)) (k1 : w.cell? ⟨b, 1, none⟩ = some (.int .i64 h)) (k2 : w.cell? ⟨b, 2, none⟩ = some (.int .i64 g)) (k3 : w.cell? ⟨b, 3, none⟩ = some (.int .i64 p)) (k4 : w.cell? ⟨b, 4, none⟩ = some (.int .i64 u)) (k5 : w.cell? ⟨b, 5, none⟩ = some (.int .i64 k)) (h1 : 0 ≤ h ∧ h ≤ 4294967296) (h2 : 0 ≤ g ∧ g ≤ 4294967296) (h3 : 0 ≤ p ∧ p ≤ 4294967296) (h4 : 0 ≤ u ∧ u ≤ 4294967296) (h5 : 1 ≤ k ∧ k ≤ 4294967296)
include hc k0 k1 k2 k3 k4 k5 h1 h2 h3 h4 h5
theorem restock_no (hno : ¬ (h + g ≤ p ∧ h + g < u)) :
    Calls Try.prog 14 #[.slice (some ⟨b, 0, none⟩) 1 1] w fun e w' => (∃ A n, e = .returned (.tuple #[.slice A 0 n, .int .i64 0, .int .i64 0])) ∧ Below w.heap.size w w' := by
  have hr := po_restock 0 c hc h g p u k h1 h2 h3 h4 h5
  rw [show poLines c (h + g) p u k = [] from if_neg hno] at hr
  refine (plan_Restock.calls 5 _ 1 _ [] 0 0 w (item_reads b c h g p u k w k0 k1 k2 k3 k4 k5) (Nat.le_refl _) hr).mono ?_
  rintro e w' ⟨v, rfl, hv, hb⟩
  obtain ⟨A, n, rfl, _, _⟩ := Kd.R_reads hv
  exact ⟨⟨A, n, rfl⟩, hb⟩
theorem restock_yes (hyes : h + g ≤ p ∧ h + g < u) :
    Calls Try.prog 14 #[.slice (some ⟨b, 0, none⟩) 1 1] w fun e w' => (∃ q o n, e = .returned (.tuple #[.slice (some ⟨q, o, none⟩) 1 n, .int .i64 0, .int .i64 0]) ∧ w'.cell? ⟨q, o, none⟩ = some (.string c) ∧ w'.cell? ⟨q, o + 1, none⟩ = some (.int .i64 ((u - (h + g) + k - 1) / k * k)) ∧ q < w'.heap.size) ∧ Below w.heap.size w w' := by
  have hr := po_restock 0 c hc h g p u k h1 h2 h3 h4 h5
  rw [show poLines c (h + g) p u k = [⟨c, (u - (h + g) + k - 1) / k * k⟩] from if_pos hyes] at hr
  refine (plan_Restock.calls 5 _ 1 _ [⟨c, (u - (h + g) + k - 1) / k * k⟩] 0 0 w (item_reads b c h g p u k w k0 k1 k2 k3 k4 k5) (Nat.le_refl _) hr).mono ?_
  rintro e w' ⟨v, rfl, hv, hb⟩
  obtain ⟨q, n, rfl⟩ := Kd.R_slice1 hv (by simp)
  obtain ⟨A, n', hA, _, hC⟩ := Kd.R_reads hv
  cases hA
  obtain ⟨ad, hx, hc0, hc1⟩ := at_T33 hC 0 (by omega) (by simp)
  cases hx
  have hq : q.spot = none := by
    obtain ⟨b0, o0, s0⟩ := q
    rcases hv.2 with ⟨inner, ho, hr⟩
    rcases ho.2 with ⟨h1, _⟩ | ⟨g', cap, cur, h1, _, _, _⟩
    · cases h1
    · cases h1
      rfl
  obtain ⟨b0, o0, s0⟩ := q
  obtain rfl : s0 = none := hq
  have e0 : ((⟨b0, o0, none⟩ : Addr).add ((0 : Int).toNat * 2)) = ⟨b0, o0, none⟩ := by
    show (⟨b0, o0, none⟩ : Addr).add 0 = _
    unfold Addr.add
    rfl
  rw [e0] at hc0 hc1
  exact ⟨⟨b0, o0, n, rfl, hc0, hc1, World.block_lt_of_cell? w' _ hc0⟩, hb⟩
end

end Go.Proofs.Ytoopoecopahcbaa.Po
