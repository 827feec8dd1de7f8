/- PlanShortest, plainly: no other order is shorter, of those that are as long none is less. No condition. -/
import Derived.Test.YtoopoecopahcbaaTrP
namespace Go.Proofs.Ytoopoecopahcbaa.Tr
open Go Go.RowKit
set_option linter.unusedVariables false
set_option linter.unusedSimpArgs false

abbrev ints (q : List Nat) : List Int := q.map Int.ofNat
/-- How long a way is: from a stop through others, and back to 0. -/
def cost (zs : List (List Int)) : Nat → List Nat → Int
  | a, [] => fr zs a 0
  | a, j :: p => fr zs a j + cost zs j p
def Rest (n s : Nat) (p : List Nat) : Prop := p.Nodup ∧ ∀ x, x ∈ p ↔ x < n ∧ bit s x = 0
def lexLt : List Int → List Int → Bool
  | x :: a, y :: b => if x = y then lexLt a b else decide (x < y)
  | _, _ => false
theorem bit_all {n x : Nat} (h : x < n) : bit (2 ^ n - 1) x = 1 := by
  unfold bit
  have e := Nat.testBit_two_pow_sub_one n x
  rw [Nat.testBit_eq_decide_div_mod_eq] at e
  have : decide (x < n) = true := decide_eq_true h
  rw [this] at e
  simpa using e
theorem rest_all {n : Nat} {p : List Nat} (h : Rest n (2 ^ n - 1) p) : p = [] := by
  cases p with
  | nil => rfl
  | cons x p =>
    obtain ⟨a, b⟩ := (h.2 x).1 (List.mem_cons_self ..)
    rw [bit_all a] at b
    cases b
theorem rest_cons {n s j : Nat} {p : List Nat} (h : Rest n s (j :: p)) : j < n ∧ bit s j = 0 ∧ Rest n (s + 2 ^ j) p := by
  obtain ⟨a, b⟩ := (h.2 j).1 (List.mem_cons_self ..)
  obtain ⟨n1, n2⟩ := List.nodup_cons.1 h.1
  refine ⟨a, b, n2, fun x => ?_⟩
  by_cases hx : x = j
  · subst hx
    rw [bit_self b]
    exact ⟨fun hm => absurd hm n1, fun hm => by omega⟩
  · rw [bit_other b hx, ← h.2 x]
    constructor
    · exact fun hm => List.mem_cons_of_mem _ hm
    · intro hm
      rcases List.mem_cons.1 hm with e | e
      · exact absurd e hx
      · exact e
theorem rest_ne {n s : Nat} {p : List Nat} (hs : s < 2 ^ n) (hne : s ≠ 2 ^ n - 1) (h : Rest n s p) : p ≠ [] := by
  obtain ⟨j, a, b⟩ := lacks_one n s hs hne
  intro e
  have := (h.2 j).2 ⟨a, b⟩
  rw [e] at this
  cases this
theorem better_le {x y : Leg} (h : better x y = true) : x.1 ≤ y.1 := by
  unfold better at h
  simp only [Bool.or_eq_true, decide_eq_true_eq, Bool.and_eq_true] at h
  omega
theorem leastF_le : ∀ (l : List Leg) (b : Leg), better b (leastF b l) = false ∧ ∀ x ∈ l, better x (leastF b l) = false
  | [], b => ⟨by unfold leastF better; simp, fun x hx => by cases hx⟩
  | y :: r, b => by
    unfold leastF
    have tr : ∀ u v z : Leg, better u v = false → better v z = false → better u z = false := by
      intro u v z h1 h2
      unfold better at *
      simp only [Bool.or_eq_false_iff, Bool.and_eq_false_iff, decide_eq_false_iff_not] at *
      omega
    by_cases hb : better y b = true
    · rw [if_pos hb]
      obtain ⟨c, d⟩ := leastF_le r y
      have hby : better b y = false := by
        unfold better at *
        simp only [Bool.or_eq_true, decide_eq_true_eq, Bool.and_eq_true, Bool.or_eq_false_iff, Bool.and_eq_false_iff, decide_eq_false_iff_not] at *
        omega
      refine ⟨tr _ _ _ hby c, fun x hx => ?_⟩
      rcases List.mem_cons.1 hx with rfl | hx
      · exact c
      · exact d x hx
    · rw [if_neg hb]
      obtain ⟨c, d⟩ := leastF_le r b
      refine ⟨c, fun x hx => ?_⟩
      rcases List.mem_cons.1 hx with rfl | hx
      · exact tr _ _ _ (by simpa using hb) c
      · exact d x hx
theorem leastL_le {l : List Leg} {x : Leg} (h : x ∈ l) : better x (leastL l) = false := by
  cases l with
  | nil => cases h
  | cons y r =>
    obtain ⟨c, d⟩ := leastF_le r y
    rcases List.mem_cons.1 h with rfl | h
    · exact c
    · exact d x h
/-- What the table says is the least, and its round is the first of the least. -/
theorem opt {zs : List (List Int)} {B : Nat → Nat → Leg} (hg : ∀ r ∈ zs, r.length = zs.length ∧ ∀ x ∈ r, 0 ≤ x ∧ x ≤ 1000000000) (hD : DoneAll zs B) :
    ∀ d s a k, all zs - s ≤ d → d ≤ k → 1 ≤ s → s ≤ all zs → a < zs.length → bit s 0 = 1 → bit s a = 1 →
      (∃ t, tourF zs B k s a = ints t ∧ Rest zs.length s t ∧ cost zs a t = (B s a).1) ∧
      ∀ p, Rest zs.length s p → (B s a).1 ≤ cost zs a p ∧ ((B s a).1 = cost zs a p → lexLt (ints p) (tourF zs B k s a) = false) := by
  intro d
  induction d with
  | zero =>
    intro s a k h1 hk h0 h2 ha b0 ba
    obtain rfl : s = all zs := by omega
    obtain ⟨e, _, _⟩ := hD (all zs) a (Nat.le_refl _) ha b0 ba (.inl (by omega))
    have e2 : B (all zs) a = (fr zs a 0, -1) := by rw [e]; unfold stepF; rw [if_pos rfl]
    rw [tour_end, e2]
    refine ⟨⟨[], rfl, ⟨List.nodup_nil, fun x => ?_⟩, rfl⟩, fun p hp => ?_⟩
    · constructor
      · intro h; cases h
      · rintro ⟨h3, h4⟩
        unfold all at h4
        rw [bit_all h3] at h4
        cases h4
    · obtain rfl := rest_all hp
      exact ⟨Int.le_refl _, fun _ => rfl⟩
  | succ d ih =>
    intro s a k h1 hk h0 h2 ha b0 ba
    by_cases hs : s = all zs
    · exact ih s a k (by omega) (by omega) h0 h2 ha b0 ba
    · have hlt : s < all zs := by omega
      have hal := all_lt zs
      obtain ⟨e, _, _⟩ := hD s a h2 ha b0 ba (.inl (by omega))
      have DS : Done zs B s a := fun s' a' c1 c2 c3 c4 c5 => hD s' a' c1 c2 c3 c4 (.inl (by omega))
      obtain ⟨j, j1, j2, j3, hL, jle, _, _⟩ := step_words hg hlt ha b0 DS
      have e2 : B s a = leastL (waysF zs B s a zs.length) := by rw [e]; unfold stepF; rw [if_neg hs]
      obtain ⟨k, rfl⟩ : ∃ k', k = k' + 1 := ⟨k - 1, by omega⟩
      have hp := Nat.two_pow_pos j
      have eB : B s a = (fr zs a j + (B (s + 2 ^ j) j).1, (j : Int)) := e2.trans hL
      obtain ⟨⟨t, t1, t2, t3⟩, t4⟩ := ih (s + 2 ^ j) j k (by omega) (by omega) (by omega) jle j1 (by rw [bit_other j2 (by omega)]; exact b0) (bit_self j2)
      rw [tour_next hs, eB]
      simp only [Int.toNat_natCast]
      refine ⟨⟨j :: t, by rw [t1]; rfl, ⟨List.nodup_cons.2 ⟨fun hm => ?_, t2.1⟩, fun x => ?_⟩, by show fr zs a j + cost zs j t = _; rw [t3]⟩, fun p hp' => ?_⟩
      · have := ((t2.2 j).1 hm).2
        rw [bit_self j2] at this
        cases this
      · by_cases hx : x = j
        · subst hx
          exact ⟨fun _ => ⟨j1, j2⟩, fun _ => List.mem_cons_self ..⟩
        · rw [← bit_other j2 hx, ← t2.2 x]
          constructor
          · intro hm
            rcases List.mem_cons.1 hm with h | h
            · exact absurd h hx
            · exact h
          · exact fun hm => List.mem_cons_of_mem _ hm
      · have hne := rest_ne (n := zs.length) (by omega) (by unfold all at hs; exact hs) hp'
        cases p with
        | nil => exact absurd rfl hne
        | cons i p =>
          obtain ⟨i1, i2, i3⟩ := rest_cons hp'
          have hpi := Nat.two_pow_pos i
          have hi0 : i ≠ 0 := fun h => by subst h; omega
          have ile : s + 2 ^ i ≤ all zs := by
            have := bit_le (s := s) (n := zs.length) (by omega) i1 i2
            unfold all
            omega
          obtain ⟨_, q4⟩ := ih (s + 2 ^ i) i k (by omega) (by omega) (by omega) ile i1 (by rw [bit_other i2 (Ne.symm hi0)]; exact b0) (bit_self i2)
          obtain ⟨q5, q6⟩ := q4 p i3
          have hmem := mem_ways (zs := zs) (B := B) (a := a) i2 zs.length i1
          have hle := leastL_le hmem
          rw [hL] at hle
          unfold better at hle
          simp only [Bool.or_eq_false_iff, Bool.and_eq_false_iff, decide_eq_false_iff_not] at hle
          show fr zs a j + (B (s + 2 ^ j) j).1 ≤ fr zs a i + cost zs i p ∧ (fr zs a j + (B (s + 2 ^ j) j).1 = fr zs a i + cost zs i p → (if (i : Int) = (j : Int) then lexLt (ints p) (tourF zs B k (s + 2 ^ j) j) else decide ((i : Int) < (j : Int))) = false)
          refine ⟨by omega, fun he => ?_⟩
          by_cases hij : i = j
          · subst hij
            rw [if_pos rfl]
            exact (t4 p i3).2 (by omega)
          · rw [if_neg (by omega)]
            refine decide_eq_false ?_
            omega
/-- A round: it begins with 0 and goes through all stops. -/
def Round (n : Nat) (q : List Nat) : Prop := List.Perm q (List.range n) ∧ q.head? = some 0
theorem round_rest {n : Nat} {q : List Nat} (h : Round n q) : ∃ p, q = 0 :: p ∧ Rest n 1 p := by
  obtain ⟨hp, hh⟩ := h
  cases q with
  | nil => cases hh
  | cons x p =>
    obtain rfl : x = 0 := by simpa using hh
    have hn : (0 :: p).Nodup := (List.Perm.nodup_iff hp).2 List.nodup_range
    obtain ⟨n1, n2⟩ := List.nodup_cons.1 hn
    refine ⟨p, rfl, n2, fun x => ?_⟩
    have hm : x ∈ 0 :: p ↔ x < n := by rw [List.Perm.mem_iff hp, List.mem_range]
    have b1 : ∀ x, bit 1 x = 0 ↔ x ≠ 0 := by
      intro x
      unfold bit
      cases x with
      | zero => simp
      | succ x =>
        rw [Nat.div_eq_of_lt (Nat.one_lt_two_pow (by omega))]
        simp
    rw [b1]
    constructor
    · intro h
      exact ⟨hm.1 (List.mem_cons_of_mem _ h), fun e => n1 (e ▸ h)⟩
    · rintro ⟨h1, h2⟩
      rcases List.mem_cons.1 (hm.2 h1) with h | h
      · exact absurd h h2
      · exact h
theorem rest_round {n : Nat} {p : List Nat} (hn : 1 ≤ n) (h : Rest n 1 p) : Round n (0 :: p) := by
  have b1 : ∀ x, bit 1 x = 0 ↔ x ≠ 0 := by
    intro x
    unfold bit
    cases x with
    | zero => simp
    | succ x =>
      rw [Nat.div_eq_of_lt (Nat.one_lt_two_pow (by omega))]
      simp
  refine ⟨(List.perm_ext_iff_of_nodup (List.nodup_cons.2 ⟨fun hm => ?_, h.1⟩) List.nodup_range).2 fun x => ?_, rfl⟩
  · have := ((h.2 0).1 hm).2
    rw [b1] at this
    exact this rfl
  · rw [List.mem_range, List.mem_cons, h.2 x, b1]
    constructor
    · rintro (rfl | h)
      · omega
      · exact h.1
    · intro h
      by_cases hx : x = 0
      · exact .inl hx
      · exact .inr ⟨h, hx⟩
theorem round_len {n : Nat} {q : List Nat} (h : Round n q) : q.length = n := by
  rw [List.Perm.length_eq h.1, List.length_range]
/-- The length of a round. -/
def len (zs : List (List Int)) (q : List Nat) : Int := match q with | [] => 0 | a :: p => cost zs a p
/-- What Trip answers. -/
theorem trip_round {zs : List (List Int)} {B : Nat → Nat → Leg} (hg : ∀ r ∈ zs, r.length = zs.length ∧ ∀ x ∈ r, 0 ≤ x ∧ x ≤ 1000000000) (hD : DoneAll zs B) (h2 : 2 ≤ zs.length) :
    ∃ q, 0 :: tourF zs B (all zs) 1 0 = ints q ∧ Round zs.length q ∧ len zs q = (B 1 0).1 ∧ ∀ o, Round zs.length o → (B 1 0).1 ≤ len zs o ∧ ((B 1 0).1 = len zs o → lexLt (ints o) (ints q) = false) := by
  have h3 : 1 ≤ all zs := by
    unfold all
    have := Nat.pow_le_pow_right (show 0 < 2 by omega) h2
    omega
  obtain ⟨⟨t, t1, t2, t3⟩, t4⟩ := opt hg hD (all zs) 1 0 (all zs) (by omega) (Nat.le_refl _) (by omega) h3 (by omega) (by decide) (by decide)
  refine ⟨0 :: t, by rw [t1]; rfl, rest_round (by omega) t2, t3, fun o ho => ?_⟩
  obtain ⟨p, rfl, hp⟩ := round_rest ho
  obtain ⟨c, d⟩ := t4 p hp
  refine ⟨c, fun e => ?_⟩
  have := d e
  rw [t1] at this
  show (if (0 : Int) = (0 : Int) then lexLt (ints p) (ints t) else _) = false
  rw [if_pos rfl]
  exact this
end Go.Proofs.Ytoopoecopahcbaa.Tr
