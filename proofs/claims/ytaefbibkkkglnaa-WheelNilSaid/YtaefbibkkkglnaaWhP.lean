/- Wheel, plain: names with times in order; the ring of two times. No condition. -/
import Derived.WalkKit
namespace Go.Proofs.Ytaefbibkkkglnaa.Wh
open Go
set_option linter.unusedVariables false
set_option linter.unusedSimpArgs false

/-! ### Bytes in order -/
theorem bl_irrefl : ∀ a : List UInt8, Op.bytesLess a a = false
  | [] => rfl
  | x :: a => by simp [Op.bytesLess, bl_irrefl a]
theorem bl_total : ∀ a b : List UInt8, a ≠ b → Op.bytesLess a b = true ∨ Op.bytesLess b a = true
  | [], [], h => absurd rfl h
  | [], _ :: _, _ => .inl rfl
  | _ :: _, [], _ => .inr rfl
  | x :: a, y :: b, h => by
    by_cases e : x = y
    · subst e
      have := bl_total a b (fun e => h (by rw [e]))
      simpa [Op.bytesLess] using this
    · have : x.toNat ≠ y.toNat := fun q => e (UInt8.toNat_inj.1 q)
      rcases Nat.lt_or_gt_of_ne this with h1 | h1
      · exact .inl (by simp [Op.bytesLess, UInt8.lt_iff_toNat_lt.2 h1])
      · exact .inr (by simp [Op.bytesLess, UInt8.lt_iff_toNat_lt.2 h1])
theorem bl_trans : ∀ a b c : List UInt8, Op.bytesLess a b = true → Op.bytesLess b c = true → Op.bytesLess a c = true
  | _, [], _, h, _ => by
    rename_i x _
    cases x <;> simp [Op.bytesLess] at h
  | _, _ :: _, [], _, h => by simp [Op.bytesLess] at h
  | [], _ :: _, _ :: _, _, _ => rfl
  | x :: a, y :: b, z :: c, h1, h2 => by
    simp only [Op.bytesLess, Bool.or_eq_true, decide_eq_true_eq, Bool.and_eq_true, beq_iff_eq] at *
    rcases h1 with h1 | ⟨rfl, h1⟩
    · rcases h2 with h2 | ⟨rfl, h2⟩
      · left
        rw [UInt8.lt_iff_toNat_lt] at *
        omega
      · exact .inl h1
    · rcases h2 with h2 | ⟨rfl, h2⟩
      · exact .inl h2
      · exact .inr ⟨rfl, bl_trans a b c h1 h2⟩
theorem str_inj {a b : ByteArray} (h : a.toList = b.toList) : a = b := by
  rw [ByteArray.toList_eq, ByteArray.toList_eq] at h
  cases a; cases b
  simpa using h

/-! ### Entries: a name and its time, in order of time and name -/
abbrev E := ByteArray × Int
def lt (e f : E) : Bool := decide (e.2 < f.2) || (e.2 == f.2 && Op.bytesLess e.1.toList f.1.toList)
theorem lt_irrefl (e : E) : lt e e = false := by simp [lt, bl_irrefl]
theorem lt_trans {e f g : E} (h1 : lt e f = true) (h2 : lt f g = true) : lt e g = true := by
  simp only [lt, Bool.or_eq_true, decide_eq_true_eq, Bool.and_eq_true, beq_iff_eq] at *
  rcases h1 with h1 | ⟨e1, h1⟩
  · rcases h2 with h2 | ⟨e2, h2⟩ <;> exact .inl (by omega)
  · rcases h2 with h2 | ⟨e2, h2⟩
    · exact .inl (by omega)
    · exact .inr ⟨by omega, bl_trans _ _ _ h1 h2⟩
theorem lt_total {e f : E} (h : e ≠ f) : lt e f = true ∨ lt f e = true := by
  simp only [lt, Bool.or_eq_true, decide_eq_true_eq, Bool.and_eq_true, beq_iff_eq]
  rcases Int.lt_trichotomy e.2 f.2 with h1 | h1 | h1
  · exact .inl (.inl h1)
  · have hne : e.1.toList ≠ f.1.toList := fun q => h (Prod.ext (str_inj q) h1)
    rcases bl_total _ _ hne with h2 | h2
    · exact .inl (.inr ⟨h1, h2⟩)
    · exact .inr (.inr ⟨h1.symm, h2⟩)
  · exact .inr (.inl h1)
theorem lt_asymm {e f : E} (h : lt e f = true) : lt f e = false := by
  cases h2 : lt f e
  · rfl
  · have := lt_trans h h2
    rw [lt_irrefl] at this
    cases this

def Sorted (l : List E) : Prop := l.Pairwise fun e f => lt e f = true
theorem sorted_ext : ∀ {l l' : List E}, Sorted l → Sorted l' → l.Perm l' → l = l'
  | [], [], _, _, _ => rfl
  | [], _ :: _, _, _, h => by simp at h
  | _ :: _, [], _, _, h => by simp at h
  | x :: l, y :: l', h1, h2, h => by
    obtain ⟨a1, a2⟩ := List.pairwise_cons.1 h1
    obtain ⟨b1, b2⟩ := List.pairwise_cons.1 h2
    have e : x = y := by
      have m1 : x ∈ y :: l' := h.mem_iff.1 (by simp)
      have m2 : y ∈ x :: l := h.mem_iff.2 (by simp)
      rcases List.mem_cons.1 m1 with q | q
      · exact q
      · rcases List.mem_cons.1 m2 with r | r
        · exact r.symm
        · have c1 := a1 y r
          have c2 := b1 x q
          rw [lt_asymm c1] at c2
          cases c2
    subst e
    rw [sorted_ext a2 b2 (List.Perm.cons_inv h)]

/-- An entry put in its place. -/
def putF (e : E) (l : List E) : List E := l.takeWhile (fun f => lt f e) ++ e :: l.dropWhile (fun f => lt f e)
theorem putF_perm (e : E) (l : List E) : (putF e l).Perm (e :: l) := by
  unfold putF
  refine List.perm_middle.trans ?_
  rw [List.takeWhile_append_dropWhile]
theorem take_lt (e : E) : ∀ l : List E, ∀ f ∈ l.takeWhile (fun f => lt f e), lt f e = true := fun l f hf => by
  induction l with
  | nil => simp at hf
  | cons x l ih =>
    rw [List.takeWhile_cons] at hf
    split at hf
    · rcases List.mem_cons.1 hf with rfl | hf
      · assumption
      · exact ih hf
    · simp at hf
theorem drop_ge (e : E) : ∀ l : List E, Sorted l → (∀ f ∈ l, f ≠ e) → ∀ f ∈ l.dropWhile (fun f => lt f e), lt e f = true := fun l hs hn f hf => by
  induction l with
  | nil => simp at hf
  | cons x l ih =>
    obtain ⟨a1, a2⟩ := List.pairwise_cons.1 hs
    rw [List.dropWhile_cons] at hf
    split at hf
    · exact ih a2 (fun f hf => hn f (by simp [hf])) hf
    · rename_i hx
      have hex : lt e x = true := by
        rcases lt_total (hn x (by simp)) with h | h
        · exact absurd h hx
        · exact h
      rcases List.mem_cons.1 hf with rfl | hf
      · exact hex
      · exact lt_trans hex (a1 f hf)
theorem putF_sorted {e : E} {l : List E} (hs : Sorted l) (hn : ∀ f ∈ l, f ≠ e) : Sorted (putF e l) := by
  unfold putF Sorted
  rw [List.pairwise_append]
  refine ⟨hs.sublist (List.takeWhile_sublist _), List.pairwise_cons.2 ⟨drop_ge e l hs hn, hs.sublist (List.dropWhile_sublist _)⟩, fun a ha b hb => ?_⟩
  have h1 := take_lt e l a ha
  rcases List.mem_cons.1 hb with rfl | hb
  · exact h1
  · exact lt_trans h1 (drop_ge e l hs hn b hb)

/-! ### Rings -/
def lvl (x : Nat) : Nat := if h : x = 0 then 0 else lvl (x / 64) + 1
termination_by x
decreasing_by omega
theorem lvl_zero : lvl 0 = 0 := by unfold lvl; simp
theorem lvl_pos {x : Nat} (h : x ≠ 0) : lvl x = lvl (x / 64) + 1 := by rw [lvl]; simp [h]
theorem lvl_le : ∀ (r x : Nat), lvl x ≤ r ↔ x / 64 ^ r = 0
  | 0, x => by
    by_cases h : x = 0
    · subst h; simp [lvl_zero]
    · rw [lvl_pos h]; simp [h]
  | r + 1, x => by
    by_cases h : x = 0
    · subst h; simp [lvl_zero]
    · rw [lvl_pos h, Nat.pow_succ, Nat.mul_comm, ← Nat.div_div_eq_div_mul, ← lvl_le r (x / 64)]
      omega
def ring (a b : Nat) : Nat := lvl ((a ^^^ b) / 64)
theorem ring_le (a b r : Nat) : ring a b ≤ r ↔ a / 64 ^ (r + 1) = b / 64 ^ (r + 1) := by
  unfold ring
  rw [lvl_le, Nat.div_div_eq_div_mul, Nat.mul_comm, ← Nat.pow_succ]
  have e : (64 : Nat) ^ (r + 1) = 2 ^ (6 * (r + 1)) := by rw [Nat.pow_mul]
  rw [e, ← Nat.shiftRight_eq_div_pow, ← Nat.shiftRight_eq_div_pow, ← Nat.shiftRight_eq_div_pow, Nat.shiftRight_xor_distrib]
  constructor
  · intro h
    have h' := congrArg (· ^^^ b >>> (6 * (r + 1))) h
    simpa [Nat.xor_assoc] using h'
  · intro h; rw [h]; exact Nat.xor_self _
theorem ring_comm (a b : Nat) : ring a b = ring b a := by unfold ring; rw [Nat.xor_comm]
theorem ring_eq {a b r : Nat} (h1 : a / 64 ^ (r + 1) = b / 64 ^ (r + 1)) (h2 : r = 0 ∨ a / 64 ^ r ≠ b / 64 ^ r) : ring a b = r := by
  have h := (ring_le a b r).2 h1
  rcases h2 with rfl | h2
  · omega
  · rcases Nat.lt_or_ge (ring a b) r with h3 | h3
    · obtain ⟨q, rfl⟩ : ∃ q, r = q + 1 := ⟨r - 1, by omega⟩
      exact absurd ((ring_le a b q).1 (by omega)) h2
    · omega
theorem ring_up {a b : Nat} : a / 64 ^ (ring a b + 1) = b / 64 ^ (ring a b + 1) := (ring_le a b _).1 (Nat.le_refl _)
theorem ring_ne {a b r : Nat} (h : r < ring a b) : a / 64 ^ (r + 1) ≠ b / 64 ^ (r + 1) := fun e => by
  have := (ring_le a b r).2 e
  omega
theorem div_more {a b r s : Nat} (h : a / 64 ^ r = b / 64 ^ r) (hs : r ≤ s) : a / 64 ^ s = b / 64 ^ s := by
  obtain ⟨d, rfl⟩ : ∃ d, s = r + d := ⟨s - r, by omega⟩
  rw [Nat.pow_add, ← Nat.div_div_eq_div_mul, ← Nat.div_div_eq_div_mul, h]
theorem lt_of_div {a b k : Nat} (h : a / k < b / k) : a < b := by
  rcases Nat.lt_or_ge a b with h1 | h1
  · exact h1
  · have := Nat.div_le_div_right (c := k) h1
    omega
theorem ring_lt {a b : Nat} (ha : a ≤ 1099511627776) (hb : b ≤ 1099511627776) : ring a b < 7 := by
  have : ring a b ≤ 6 := by
    rw [ring_le, Nat.div_eq_of_lt (by omega), Nat.div_eq_of_lt (by omega)]
  omega
def dig (r a : Nat) : Nat := a / 64 ^ r % 64
theorem dig_eq (r a : Nat) : a / 64 ^ r = a / 64 ^ (r + 1) * 64 + dig r a := by
  unfold dig
  rw [Nat.pow_succ, ← Nat.div_div_eq_div_mul]
  omega
theorem dig_lt (r a : Nat) : dig r a < 64 := Nat.mod_lt _ (by omega)
/-- A name that stays where it hangs as time goes on from now to 'to'. -/
theorem stays {now to a : Nat} (h1 : now < a) (h2 : now ≤ to) (h : ring to now < ring a now ∨ ring a now = ring to now ∧ dig (ring a now) to < dig (ring a now) a) : ring a to = ring a now ∧ to < a := by
  have hu := @ring_up a now
  have hv := @ring_up to now
  rcases h with h | ⟨e, h⟩
  · obtain ⟨q, hq⟩ : ∃ q, ring a now = q + 1 := ⟨ring a now - 1, by omega⟩
    have hne := ring_ne (a := a) (b := now) (r := q) (by omega)
    have hw : to / 64 ^ (q + 1) = now / 64 ^ (q + 1) := div_more hv (by omega)
    have hw' : to / 64 ^ (q + 1 + 1) = now / 64 ^ (q + 1 + 1) := div_more hv (by omega)
    rw [hq] at hu ⊢
    refine ⟨ring_eq (by rw [hu, hw']) (.inr (by rw [hw]; exact hne)), ?_⟩
    have h3 : now / 64 ^ (q + 1) ≤ a / 64 ^ (q + 1) := Nat.div_le_div_right (by omega)
    exact lt_of_div (k := 64 ^ (q + 1)) (by omega)
  · rw [← e] at hv
    generalize ring a now = r at *
    have h3 := dig_eq r a
    have h4 := dig_eq r to
    refine ⟨ring_eq (by rw [hu, hv]) (.inr (by rw [h3, h4, hu, hv]; omega)), ?_⟩
    exact lt_of_div (k := 64 ^ r) (by rw [h3, h4, hu, hv]; omega)
/-- Of two names of different rings, or of different slots of one ring, which comes first. -/
theorem first_ring {now a b : Nat} (h1 : now < a) (h2 : now < b) (h : ring a now < ring b now) : a < b := by
  obtain ⟨q, hq⟩ : ∃ q, ring b now = q + 1 := ⟨ring b now - 1, by omega⟩
  have hne := ring_ne (a := b) (b := now) (r := q) (by omega)
  have hu : a / 64 ^ (q + 1) = now / 64 ^ (q + 1) := div_more (@ring_up a now) (by omega)
  have h3 : now / 64 ^ (q + 1) ≤ b / 64 ^ (q + 1) := Nat.div_le_div_right (by omega)
  exact lt_of_div (k := 64 ^ (q + 1)) (by omega)
theorem first_dig {now a b r : Nat} (ha : ring a now = r) (hb : ring b now = r) (h : dig r a < dig r b) : a < b := by
  have h1 := @ring_up a now
  have h2 := @ring_up b now
  rw [ha] at h1
  rw [hb] at h2
  have h3 := dig_eq r a
  have h4 := dig_eq r b
  exact lt_of_div (k := 64 ^ r) (by omega)
end Go.Proofs.Ytaefbibkkkglnaa.Wh
