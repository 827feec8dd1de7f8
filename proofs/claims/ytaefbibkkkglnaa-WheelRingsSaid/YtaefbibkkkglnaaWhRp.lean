/- WheelRings: the plain law. No condition. -/
import Derived.Test.YtaefbibkkkglnaaWhOn
namespace Go.Proofs.Ytaefbibkkkglnaa.Wh
open Go Go.RowKit Go.Proofs.YtaefbibkkkglnaaW.PrintWords
set_option linter.unusedVariables false
set_option linter.unusedSimpArgs false
theorem ring_mono {a n1 n2 : Nat} (h1 : n1 ≤ n2) (h2 : n2 < a) : ring a n2 ≤ ring a n1 := by
  rw [ring_le]
  have h := @ring_up a n1
  have h3 : n1 / 64 ^ (ring a n1 + 1) ≤ n2 / 64 ^ (ring a n1 + 1) := Nat.div_le_div_right h1
  have h4 : n2 / 64 ^ (ring a n1 + 1) ≤ a / 64 ^ (ring a n1 + 1) := Nat.div_le_div_right (by omega)
  omega
theorem rg_mono2 {a n1 n2 : Int} (h0 : 0 ≤ n1) (h1 : n1 ≤ n2) (h2 : n2 < a) : rg a n2 ≤ rg a n1 := ring_mono (by omega) (by omega)
/-- How many lie in the rings below k; from k on. -/
def lowC (now : Int) (l : List E) (k : Nat) : Nat := (l.filter fun e => decide (rg e.2 now < k)).length
def upC (now : Int) (l : List E) (k : Nat) : Nat := (l.filter fun e => decide (k ≤ rg e.2 now)).length
theorem lowC_zero (now : Int) (l : List E) : lowC now l 0 = 0 := by
  unfold lowC
  rw [List.length_eq_zero_iff, List.filter_eq_nil_iff]
  intro e _
  simp
theorem lowC_succ (now : Int) (k : Nat) : ∀ l : List E, lowC now l (k + 1) = lowC now l k + spr now l k
  | [] => rfl
  | e :: l => by
    have ih := lowC_succ now k l
    unfold lowC spr at *
    rcases Nat.lt_trichotomy (rg e.2 now) k with h | h | h
    · rw [List.filter_cons_of_pos (by simp; omega), List.filter_cons_of_pos (p := fun e : E => decide (rg e.2 now < k)) (by simpa using h), List.filter_cons_of_neg (p := fun e : E => decide (rg e.2 now = k)) (by simp; omega)]
      simp only [List.length_cons]
      omega
    · rw [List.filter_cons_of_pos (by simp; omega), List.filter_cons_of_neg (p := fun e : E => decide (rg e.2 now < k)) (by simp; omega), List.filter_cons_of_pos (p := fun e : E => decide (rg e.2 now = k)) (by simpa using h)]
      simp only [List.length_cons]
      omega
    · rw [List.filter_cons_of_neg (by simp; omega), List.filter_cons_of_neg (p := fun e : E => decide (rg e.2 now < k)) (by simp; omega), List.filter_cons_of_neg (p := fun e : E => decide (rg e.2 now = k)) (by simp; omega)]
      exact ih
theorem upC_step (now : Int) (k : Nat) : ∀ l : List E, upC now l k = upC now l (k + 1) + spr now l k
  | [] => rfl
  | e :: l => by
    have ih := upC_step now k l
    unfold upC spr at *
    rcases Nat.lt_trichotomy (rg e.2 now) k with h | h | h
    · rw [List.filter_cons_of_neg (by simp; omega), List.filter_cons_of_neg (p := fun e : E => decide (k + 1 ≤ rg e.2 now)) (by simp; omega), List.filter_cons_of_neg (p := fun e : E => decide (rg e.2 now = k)) (by simp; omega)]
      exact ih
    · rw [List.filter_cons_of_pos (by simp; omega), List.filter_cons_of_neg (p := fun e : E => decide (k + 1 ≤ rg e.2 now)) (by simp; omega), List.filter_cons_of_pos (p := fun e : E => decide (rg e.2 now = k)) (by simpa using h)]
      simp only [List.length_cons]
      omega
    · rw [List.filter_cons_of_pos (by simp; omega), List.filter_cons_of_pos (p := fun e : E => decide (k + 1 ≤ rg e.2 now)) (by simp; omega), List.filter_cons_of_neg (p := fun e : E => decide (rg e.2 now = k)) (by simp; omega)]
      simp only [List.length_cons]
      omega
theorem rg_lt7 {a now : Int} (h0 : 0 ≤ now) (h1 : now < a) (h2 : a ≤ 1099511627776) : rg a now < 7 := ring_lt (by omega) (by omega)
theorem lowC_all {now : Int} {l : List E} (h0 : 0 ≤ now) (h : ∀ e ∈ l, now < e.2 ∧ e.2 ≤ 1099511627776) : lowC now l 7 = l.length := by
  unfold lowC
  rw [List.filter_eq_self.2]
  intro e he
  have := rg_lt7 h0 (h e he).1 (h e he).2
  simpa using this
theorem upC_seven {now : Int} {l : List E} (h0 : 0 ≤ now) (h : ∀ e ∈ l, now < e.2 ∧ e.2 ≤ 1099511627776) : upC now l 7 = 0 := by
  unfold upC
  rw [List.length_eq_zero_iff, List.filter_eq_nil_iff]
  intro e he
  have := rg_lt7 h0 (h e he).1 (h e he).2
  simp
  omega
theorem upC_falls {n1 n2 : Int} (h0 : 0 ≤ n1) (h1 : n1 ≤ n2) (k : Nat) : ∀ l : List E, upC n2 (leftF n2 l) k ≤ upC n1 l k
  | [] => Nat.le_refl _
  | e :: l => by
    have ih := upC_falls h0 h1 k l
    unfold upC leftF at *
    by_cases he : n2 < e.2
    · rw [List.filter_cons_of_pos (p := fun e : E => decide (n2 < e.2)) (by simpa using he)]
      have hm := rg_mono2 h0 h1 he
      by_cases h2 : k ≤ rg e.2 n2
      · rw [List.filter_cons_of_pos (by simpa using h2), List.filter_cons_of_pos (by simp; omega)]
        simp only [List.length_cons]
        omega
      · rw [List.filter_cons_of_neg (by simpa using h2)]
        refine Nat.le_trans ih ?_
        exact (List.Sublist.filter _ (List.sublist_cons_self e l)).length_le
    · rw [List.filter_cons_of_neg (p := fun e : E => decide (n2 < e.2)) (by simpa using he)]
      refine Nat.le_trans ih ?_
      exact (List.Sublist.filter _ (List.sublist_cons_self e l)).length_le
theorem told_left (t : Int) : ∀ l : List E, (toldF t l).length + (leftF t l).length = l.length
  | [] => rfl
  | e :: l => by
    have ih := told_left t l
    unfold toldF leftF at *
    by_cases he : e.2 ≤ t
    · rw [List.filter_cons_of_pos (by simpa using he), List.filter_cons_of_neg (p := fun e : E => decide (t < e.2)) (by simp; omega)]
      simp only [List.length_cons]
      omega
    · rw [List.filter_cons_of_neg (by simpa using he), List.filter_cons_of_pos (p := fun e : E => decide (t < e.2)) (by simp; omega)]
      simp only [List.length_cons]
      omega
theorem left_late {t : Int} {l : List E} (h : ∀ e ∈ l, e.2 ≤ 1099511627776) : ∀ e ∈ leftF t l, t < e.2 ∧ e.2 ≤ 1099511627776 := fun e he => by
  obtain ⟨h1, h2⟩ := List.mem_filter.1 he
  exact ⟨by simpa using h2, h e h1⟩
/-- Seven numbers in a block of their own. -/
def Arr7 (w : World) (g : Nat) (f : Nat → Nat) : Prop := w.heap[g]? = some (.cells #[.int .i64 (f 0), .int .i64 (f 1), .int .i64 (f 2), .int .i64 (f 3), .int .i64 (f 4), .int .i64 (f 5), .int .i64 (f 6)] 36 (0, 0))
theorem Arr7.get {w : World} {g : Nat} {f : Nat → Nat} (h : Arr7 w g f) {k : Nat} (hk : k < 7) : w.cell? ⟨g, k, none⟩ = some (.int .i64 (f k)) := by
  refine (blk_cell h k).trans ?_
  match k, hk with
  | 0, _ => rfl
  | 1, _ => rfl
  | 2, _ => rfl
  | 3, _ => rfl
  | 4, _ => rfl
  | 5, _ => rfl
  | 6, _ => rfl
theorem Arr7.move {w w' : World} {g : Nat} {f : Nat → Nat} (h : Arr7 w g f) (hb : w'.heap[g]? = w.heap[g]?) : Arr7 w' g f := hb.trans h
theorem Arr7.lt {w : World} {g : Nat} {f : Nat → Nat} (h : Arr7 w g f) : g < w.heap.size := blk_lt h
/-- One name alone. -/
theorem spr_one (now t : Int) (id : ByteArray) (k : Nat) : spr now [(id, t)] k = if rg t now = k then 1 else 0 := by
  unfold spr
  by_cases h : rg t now = k
  · rw [List.filter_cons_of_pos (by simpa using h), if_pos h]; rfl
  · rw [List.filter_cons_of_neg (by simpa using h), if_neg h]; rfl
theorem shift_ne {t now : Int} (h0 : 0 ≤ t) (h1 : 0 ≤ now) (k : Nat) : (t / 2 ^ (6 * k + 6) != now / 2 ^ (6 * k + 6)) = decide (k < rg t now) := by
  have e1 : t / 2 ^ (6 * k + 6) = ((t.toNat / 64 ^ (k + 1) : Nat) : Int) := by
    rw [show (64 : Nat) ^ (k + 1) = 2 ^ (6 * k + 6) by rw [show 6 * k + 6 = 6 * (k + 1) by omega, Nat.pow_mul]]
    rw [Int.natCast_ediv, Int.toNat_of_nonneg h0]
    simp
  have e2 : now / 2 ^ (6 * k + 6) = ((now.toNat / 64 ^ (k + 1) : Nat) : Int) := by
    rw [show (64 : Nat) ^ (k + 1) = 2 ^ (6 * k + 6) by rw [show 6 * k + 6 = 6 * (k + 1) by omega, Nat.pow_mul]]
    rw [Int.natCast_ediv, Int.toNat_of_nonneg h1]
    simp
  rw [e1, e2]
  have h := ring_le t.toNat now.toNat k
  unfold rg
  rw [Bool.eq_iff_iff, bne_iff_ne, decide_eq_true_eq]
  constructor
  · intro hne
    rcases Nat.lt_or_ge k (ring t.toNat now.toNat) with h3 | h3
    · exact h3
    · exact absurd (by rw [h.1 h3]) hne
  · intro hlt e
    have := h.2 (by omega)
    omega
end Go.Proofs.Ytaefbibkkkglnaa.Wh
