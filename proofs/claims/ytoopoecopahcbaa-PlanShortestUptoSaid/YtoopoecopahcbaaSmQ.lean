/- PlanShortest: a round's length and what is less, as the law reckons them; what Trip answers. No condition. -/
import Derived.Test.YtoopoecopahcbaaSmN
import Derived.Test.YtoopoecopahcbaaTrD
import Derived.Test.YtoopoecopahcbaaPPlanShortestx1
namespace Go.Proofs.Ytoopoecopahcbaa.Tr
open Go Go.RowKit Go.Proofs.YtoopoecopahcbaaW.PrintWords Go.Proofs.YtoopoecopahcbaaW.PrintLast Go.Proofs.YtoopoecopahcbaaW.PrintMore Go.Proofs.Ytoopoecopahcbaa.PPlanShortest
set_option linter.unusedVariables false
set_option linter.unusedSimpArgs false

theorem ints_getD (q : List Nat) (i : Nat) : (ints q).getD i 0 = ((q.getD i 0 : Nat) : Int) := by
  rw [List.getD_eq_getElem?_getD, List.getD_eq_getElem?_getD, List.getElem?_map]
  cases q[i]? <;> rfl
theorem rd_int (xs : List Int) (i : Nat) : rd xs (i : Int) = xs.getD i 0 := by unfold rd; rw [Int.toNat_natCast]
theorem rd_row (zs : List (List Int)) (i : Nat) : rd_L1 zs (i : Int) = zs.getD i [] := by unfold rd_L1; rw [Int.toNat_natCast]
theorem round_at {n : Nat} {q : List Nat} (h : Round n q) {i : Nat} (hi : i < n) : q.getD i 0 < n := by
  have hl := round_len h
  rw [List.getD_eq_getElem?_getD, List.getElem?_eq_getElem (by omega)]
  have := (List.Perm.mem_iff h.1).1 (List.getElem_mem (l := q) (by omega : i < q.length))
  exact List.mem_range.1 this
def Good (n : Nat) (zs : List (List Int)) : Prop := zs.length = n ∧ ∀ r ∈ zs, r.length = n ∧ ∀ x ∈ r, 0 ≤ x ∧ x ≤ 1000000000
theorem long_loop {n : Nat} {zs : List (List Int)} (hg : Good n zs) (hn : n ≤ 12) {q : List Nat} (hq : Round n q) : ∀ d i k acc, n - i = d → i < n → d < k → 0 ≤ acc → acc ≤ (i : Int) * 1000000000 →
    larderlaw17_long.l0 k zs (ints q) acc i = some (acc + cost zs (q.getD i 0) (q.drop (i + 1))) := by
  have hl := round_len hq
  have hrow : ∀ a b, a < n → b < n → 0 ≤ fr zs a b ∧ fr zs a b ≤ 1000000000 := fun a b h1 h2 => fr_bound (fun r hr => by rw [hg.1]; exact hg.2 r hr) (by rw [hg.1]; exact h1) (by rw [hg.1]; exact h2)
  have hrl : ∀ a, a < n → (zs.getD a []).length = n := fun a h1 => by
    rw [List.getD_eq_getElem?_getD, List.getElem?_eq_getElem (by rw [hg.1]; exact h1)]
    exact (hg.2 _ (List.getElem_mem _)).1
  have h00 : q.getD 0 0 = 0 := by
    obtain ⟨p, rfl, _⟩ := round_rest hq
    rfl
  intro d
  induction d with
  | zero => intro i k acc h1 h2 _ _ _; omega
  | succ d ih =>
    intro i k acc h1 h2 hk ha hb
    obtain ⟨k, rfl⟩ : ∃ k', k = k' + 1 := ⟨k - 1, by omega⟩
    have hil : (ints q).length = n := by rw [List.length_map, hl]
    have wi : wrap64 ((i : Int) + 1) = ((i + 1 : Nat) : Int) := by unfold wrap64; omega
    have hqi := round_at hq h2
    simp only [larderlaw17_long.l0]
    rw [hil, wi, rd_int, ints_getD, rd_row, hg.1]
    rw [if_pos (by omega), if_pos (by omega), if_pos (by omega), if_pos (by omega), if_neg (by omega)]
    by_cases hlast : i + 1 = n
    · have e1 : Int.tmod ((i + 1 : Nat) : Int) (n : Int) = ((0 : Nat) : Int) := by
        rw [Int.tmod_eq_emod_of_nonneg (by omega), hlast]
        simp
      rw [e1, if_pos (by omega), if_pos (by omega)]
      simp only [rd_int, ints_getD, h00]
      rw [if_pos (by omega), if_pos (by rw [hrl _ hqi]; omega)]
      obtain ⟨b1, b2⟩ := hrow (q.getD i 0) 0 hqi (by omega)
      have hf : (zs.getD (q.getD i 0) []).getD 0 0 = fr zs (q.getD i 0) 0 := rfl
      rw [hf]
      have w2 : wrap64 (acc + fr zs (q.getD i 0) 0) = acc + fr zs (q.getD i 0) 0 := by unfold wrap64; omega
      rw [w2, List.drop_of_length_le (by omega)]
      obtain ⟨k, rfl⟩ : ∃ k', k = k' + 1 := ⟨k - 1, by omega⟩
      simp only [larderlaw17_long.l0]
      rw [hil, if_neg (by omega)]
      rfl
    · have hi1 : i + 1 < n := by omega
      have e1 : Int.tmod ((i + 1 : Nat) : Int) (n : Int) = ((i + 1 : Nat) : Int) := by
        rw [Int.tmod_eq_emod_of_nonneg (by omega)]
        exact Int.emod_eq_of_lt (by omega) (by omega)
      have hqj := round_at hq hi1
      rw [e1, if_pos (by omega), if_pos (by omega)]
      simp only [rd_int, ints_getD]
      rw [if_pos (by omega), if_pos (by rw [hrl _ hqi]; omega)]
      obtain ⟨b1, b2⟩ := hrow (q.getD i 0) (q.getD (i + 1) 0) hqi hqj
      have hf : (zs.getD (q.getD i 0) []).getD (q.getD (i + 1) 0) 0 = fr zs (q.getD i 0) (q.getD (i + 1) 0) := rfl
      rw [hf]
      have w2 : wrap64 (acc + fr zs (q.getD i 0) (q.getD (i + 1) 0)) = acc + fr zs (q.getD i 0) (q.getD (i + 1) 0) := by unfold wrap64; omega
      rw [w2, ih (i + 1) k _ (by omega) hi1 (by omega) (by omega) (by omega)]
      have hd : q.drop (i + 1) = q.getD (i + 1) 0 :: q.drop (i + 1 + 1) := by
        rw [List.drop_eq_getElem_cons (by omega), List.getD_eq_getElem?_getD, List.getElem?_eq_getElem (by omega)]
        rfl
      rw [hd]
      show some (acc + _ + _) = some (acc + (fr zs (q.getD i 0) (q.getD (i + 1) 0) + cost zs (q.getD (i + 1) 0) (q.drop (i + 1 + 1))))
      rw [Int.add_assoc]
theorem long_ok {n : Nat} {zs : List (List Int)} (hg : Good n zs) (h1 : 1 ≤ n) (hn : n ≤ 12) {q : List Nat} (hq : Round n q) : larderlaw17_long.f 20 zs (ints q) = some (len zs q) := by
  unfold larderlaw17_long.f
  have := long_loop hg hn hq n 0 20 0 rfl (by omega) (by omega) (Int.le_refl _) (by simp)
  rw [show ((0 : Nat) : Int) = 0 from rfl] at this
  rw [this, Int.zero_add]
  obtain ⟨p, rfl, _⟩ := round_rest hq
  rfl
theorem less_loop (a b : List Int) (hl : a.length = b.length) (hm : a.length < 1000) : ∀ d i k, a.length - i = d → i ≤ a.length → d < k → larderlaw17_less.l0 k a b i = some (lexLt (a.drop i) (b.drop i)) := by
  intro d
  induction d with
  | zero =>
    intro i k h1 h2 hk
    obtain rfl : i = a.length := by omega
    obtain ⟨k, rfl⟩ : ∃ k', k = k' + 1 := ⟨k - 1, by omega⟩
    simp only [larderlaw17_less.l0]
    rw [if_neg (by omega), List.drop_length]
    rfl
  | succ d ih =>
    intro i k h1 h2 hk
    obtain ⟨k, rfl⟩ : ∃ k', k = k' + 1 := ⟨k - 1, by omega⟩
    have wi : wrap64 ((i : Int) + 1) = ((i + 1 : Nat) : Int) := by unfold wrap64; omega
    simp only [larderlaw17_less.l0]
    rw [if_pos (by omega), if_pos (by omega), if_pos (by omega), wi, rd_int, rd_int, ih (i + 1) k (by omega) (by omega) (by omega)]
    have ha : a.drop i = a.getD i 0 :: a.drop (i + 1) := by
      rw [List.drop_eq_getElem_cons (by omega), List.getD_eq_getElem?_getD, List.getElem?_eq_getElem (by omega)]
      rfl
    have hb : b.drop i = b.getD i 0 :: b.drop (i + 1) := by
      rw [List.drop_eq_getElem_cons (by omega), List.getD_eq_getElem?_getD, List.getElem?_eq_getElem (by omega)]
      rfl
    rw [ha, hb]
    show (if _ then _ else _) = some (if _ then _ else _)
    split <;> rfl
theorem less_ok {a b : List Int} (hl : a.length = b.length) (hm : a.length ≤ 12) : larderlaw17_less.f 20 a b = some (lexLt a b) := by
  unfold larderlaw17_less.f
  have := less_loop a b hl (by omega) a.length 0 20 rfl (by omega) (by omega)
  exact this
theorem within_ok {x : Int} (h1 : -9223372036854775808 ≤ x) (h2 : x ≤ 9223372036854775807) {lo hi : Int} (hlo : 0 ≤ lo) (h : lo ≤ hi) (hh : hi ≤ 1000000000) : ∃ r, larderlaw17_within.f x lo hi = some r ∧ lo ≤ r ∧ r ≤ hi := by
  have e : wrap64 ((wrap64 (hi - lo)) + 1) = hi - lo + 1 := by unfold wrap64; omega
  unfold larderlaw17_within.f
  rw [e]
  by_cases hx : x < 0
  · rw [if_pos hx, if_neg (by omega)]
    have e2 : wrap64 (-(wrap64 (x + 1))) = -(x + 1) := by unfold wrap64; omega
    rw [e2, Int.tmod_eq_emod_of_nonneg (by omega)]
    have m1 := Int.emod_nonneg (-(x + 1)) (show hi - lo + 1 ≠ 0 by omega)
    have m2 := Int.emod_lt_of_pos (-(x + 1)) (show 0 < hi - lo + 1 by omega)
    generalize (-(x + 1)) % (hi - lo + 1) = r at *
    refine ⟨lo + r, ?_, by omega, by omega⟩
    congr 1
    unfold wrap64
    omega
  · rw [if_neg hx, if_neg (by omega), Int.tmod_eq_emod_of_nonneg (by omega)]
    have m1 := Int.emod_nonneg x (show hi - lo + 1 ≠ 0 by omega)
    have m2 := Int.emod_lt_of_pos x (show 0 < hi - lo + 1 by omega)
    generalize x % (hi - lo + 1) = r at *
    refine ⟨lo + r, ?_, by omega, by omega⟩
    congr 1
    unfold wrap64
    omega
theorem good_all {n : Nat} {zs : List (List Int)} (hg : Good n zs) : zs.all (rowGood zs.length) = true := by
  refine List.all_eq_true.2 fun r hr => ?_
  obtain ⟨a, b⟩ := hg.2 r hr
  unfold rowGood
  rw [Bool.and_eq_true, decide_eq_true_eq]
  refine ⟨by rw [hg.1]; exact a, ?_⟩
  rw [Bool.not_eq_true']
  refine List.any_eq_false.2 fun x hx => ?_
  obtain ⟨c, d⟩ := b x hx
  unfold goodF
  simp [c, d]
/-- What Trip answers to good ways. -/
structure Ans (n : Nat) (zs : List (List Int)) (q : List Nat) (m : Int) : Prop where
  round : Round n q
  single : n = 1 → m = 0
  more : 2 ≤ n → m = len zs q ∧ ∀ o, Round n o → m ≤ len zs o ∧ (m = len zs o → lexLt (ints o) (ints q) = false)
def AnsPost (n : Nat) (zs : List (List Int)) (w : World) (e : Ending) (w' : World) : Prop :=
  ∃ v q m, e = .returned (.tuple #[v, .int .i64 m, .int .i64 0]) ∧ (Kd.int .i64).R 3 w' w.heap.size (fun _ => True) v (ints q) ∧ Ans n zs q m ∧ Below w.heap.size w w'
theorem ans_calls (A : Option Addr) (c : Nat) (zs : List (List Int)) (n : Nat) (w : World) (ha : Kd.C kRow w A zs.length zs) (hc : zs.length ≤ c) (h1 : 1 ≤ n) (h12 : n ≤ 12) (hg : Good n zs) :
    Calls Try.prog 21 #[.slice A zs.length c] w (AnsPost n zs w) := by
  have hgr : ∀ r ∈ zs, r.length = zs.length ∧ ∀ x ∈ r, 0 ≤ x ∧ x ≤ 1000000000 := fun r hr => by rw [hg.1]; exact hg.2 r hr
  rcases Nat.lt_or_ge n 2 with h | h
  · obtain rfl : n = 1 := by omega
    refine (trip_few A c zs w ha hc (fun r hr => by rw [(hg.2 r hr).1]; omega) (by rw [hg.1]; omega) (good_all hg)).mono fun e w' hq => ?_
    obtain ⟨v, rfl, hR, hb⟩ := hq
    rw [hg.1] at hR
    exact ⟨v, [0], 0, rfl, hR, ⟨⟨List.Perm.refl _, rfl⟩, fun _ => rfl, fun h => by omega⟩, hb⟩
  · refine (trip_calls A c zs w ha hc (by rw [hg.1]; exact h) (by rw [hg.1]; exact h12) (good_all hg)).mono fun e w' hq => ?_
    obtain ⟨v, B, rfl, hR, hD, hb⟩ := hq
    obtain ⟨q, q1, q2, q3, q4⟩ := trip_round hgr hD (by rw [hg.1]; exact h)
    rw [q1] at hR
    rw [hg.1] at q2 q4
    exact ⟨v, q, (B 1 0).1, rfl, hR, ⟨q2, fun h => by omega, fun _ => ⟨q3.symm, q4⟩⟩, hb⟩
/-- Another order of a round's, with the same first, is a round. -/
theorem like_round {n : Nat} {q : List Nat} {r : List Int} (h : Round n q) (hr : Like r (ints q)) : ∃ o, r = ints o ∧ Round n o := by
  have hnn : ∀ x ∈ r, 0 ≤ x := fun x hx => by
    obtain ⟨y, _, rfl⟩ := List.mem_map.1 ((List.Perm.mem_iff hr.1).1 hx)
    exact Int.natCast_nonneg _
  have e : r = ints (r.map Int.toNat) := by
    rw [ints, List.map_map]
    have e0 : List.map (Int.ofNat ∘ Int.toNat) r = List.map id r := List.map_congr_left (fun x hx => Int.toNat_of_nonneg (hnn x hx))
    rw [e0, List.map_id]
  refine ⟨r.map Int.toNat, e, ?_, ?_⟩
  · have h2 := hr.1.map Int.toNat
    rw [ints, List.map_map] at h2
    have e3 : List.map (Int.toNat ∘ Int.ofNat) q = q := by
      rw [show (Int.toNat ∘ Int.ofNat) = id from funext fun _ => rfl, List.map_id]
    rw [e3] at h2
    exact h2.trans h.1
  · obtain ⟨p, rfl, _⟩ := round_rest h
    have h3 := hr.2
    cases r with
    | nil => cases h3
    | cons x r =>
      have : x = 0 := by simpa using h3
      subst this
      rfl
end Go.Proofs.Ytoopoecopahcbaa.Tr
