/- PlanRestocks, its pure statement: the program's list of what to order anew is the document's, for every list of items, and again behind the items have been written over. No condition. -/
import Derived.Test.YtoopoecopahcbaaRdPlanRestocks
namespace Go.Proofs.Ytoopoecopahcbaa.Pure
set_option linter.unusedVariables false
set_option linter.unusedSimpArgs false
open Go.RowKit Go.Proofs.Ytoopoecopahcbaa.QPlanRestocks Go.Proofs.YtoopoecopahcbaaW.PrintWords Go.Proofs.YtoopoecopahcbaaW.PrintLast

theorem pr_wrap (x : Int) (h0 : -9223372036854775808 ≤ x) (h1 : x ≤ 9223372036854775807) : wrap64 x = x := by unfold wrap64; omega

/-- May an item stand behind a code? -/
def itemOk (first : Bool) (prev : ByteArray) (x : S24) : Prop :=
  (0 ≤ x.f1 ∧ x.f1 ≤ 1099511627776) ∧ (0 ≤ x.f2 ∧ x.f2 ≤ 1099511627776) ∧ (0 ≤ x.f3 ∧ x.f3 ≤ 1099511627776) ∧ (0 ≤ x.f4 ∧ x.f4 ≤ 1099511627776) ∧ (1 ≤ x.f5 ∧ x.f5 ≤ 1099511627776) ∧
    (1 ≤ (x.f0.size : Int) ∧ (x.f0.size : Int) ≤ 40) ∧ (first = true ∨ Op.bytesLess prev.toList x.f0.toList = true)
instance (first : Bool) (prev : ByteArray) (x : S24) : Decidable (itemOk first prev x) := by unfold itemOk; infer_instance

def lineOf (x : S24) (out : List S33) : List S33 :=
  if (wrap64 (x.f1 + x.f2)) ≤ x.f3 then (if (wrap64 (x.f1 + x.f2)) < x.f4 then out ++ [(⟨x.f0, wrap64 ((wrap64 (Int.tdiv (wrap64 ((wrap64 ((wrap64 (x.f4 - (wrap64 (x.f1 + x.f2)))) + x.f5)) - 1)) x.f5)) * x.f5)⟩ : S33)] else out) else out

theorem lineOf_len (x : S24) (out : List S33) : (lineOf x out).length ≤ out.length + 1 := by
  unfold lineOf
  repeat' split
  all_goals simp

/-- From place i on, d items are left. -/
def spec (xs : List S24) : Nat → Int → List S33 → (List S33 × Int × Int)
  | 0, _, out => (out, 0, 0)
  | d + 1, i, out => if itemOk (i == 0) (rd_T24 xs (i - 1)).f0 (rd_T24 xs i) then spec xs d (i + 1) (lineOf (rd_T24 xs i) out) else ([], 171, i)

theorem within_eq (x lo hi : Int) : plan_within.f x lo hi = some (decide (lo ≤ x ∧ x ≤ hi)) := by
  unfold plan_within.f
  by_cases h : lo ≤ x
  · rw [if_pos h]
    simp [h]
  · rw [if_neg h]
    simp [h]

theorem code_eq (s : ByteArray) : plan_isCode.f s = some (decide (1 ≤ (s.size : Int) ∧ (s.size : Int) ≤ 40)) := by
  unfold plan_isCode.f
  by_cases h : (1 : Int) ≤ (s.size : Int)
  · rw [if_pos h]
    simp [h]
  · rw [if_neg h]
    simp [h]

theorem j2_true (m : Nat) (x0 : List S24) (x5 : List S33) (x6 : Int) (x13 : List S24) (x14 x15 : Int) (a0 : ByteArray) (a1 a2 a3 a4 a5 : Int) :
    plan_Restock.j2 (m + 1) x0 x5 x6 x13 x14 x15 true a0 a1 a2 a3 a4 a5 = some ([], 171, x6) := by
  rw [plan_Restock.j2, if_pos rfl]

theorem j1_false (m : Nat) (x0 : List S24) (x5 : List S33) (x6 : Int) (x13 : List S24) (x14 x15 : Int) (a0 : ByteArray) (a1 a2 a3 a4 a5 : Int) :
    plan_Restock.j1 (m + 2) x0 x5 x6 false x13 x14 x15 a0 a1 a2 a3 a4 a5 = some ([], 171, x6) := by
  rw [plan_Restock.j1, if_neg (by decide)]
  exact j2_true _ _ _ _ _ _ _ _ _ _ _ _ _

theorem plan_tells (xs : List S24) (hl : xs.length ≤ 512) : ∀ (d k : Nat) (i : Int) (out : List S33), 0 ≤ i → i + d = xs.length → out.length ≤ i → 3 * d + 3 ≤ k →
    plan_Restock.l0 k xs out xs xs.length i = some (spec xs d i out)
  | 0, k, i, out, h0, hd, ho, hk => by
    obtain ⟨m, rfl⟩ : ∃ m, k = m + 1 := ⟨k - 1, by omega⟩
    rw [plan_Restock.l0, if_neg (by omega)]
    rfl
  | d + 1, k, i, out, h0, hd, ho, hk => by
    obtain ⟨m, rfl⟩ : ∃ m, k = m + 3 := ⟨k - 3, by omega⟩
    have ih := plan_tells xs hl d m (i + 1) (lineOf (rd_T24 xs i) out) (by omega) (by omega) (by have := lineOf_len (rd_T24 xs i) out; omega) (by omega)
    have w1 : wrap64 (i + 1) = i + 1 := pr_wrap _ (by omega) (by omega)
    rw [plan_Restock.l0, if_pos (by omega), if_pos h0, if_pos (by omega), spec]
    generalize hx : rd_T24 xs i = x at *
    simp only [within_eq, Option.bind_some, decide_eq_true_eq]
    by_cases c1 : 0 ≤ x.f1 ∧ x.f1 ≤ 1099511627776
    case neg => rw [if_neg c1, if_neg (fun z => c1 z.1), j1_false]
    by_cases c2 : 0 ≤ x.f2 ∧ x.f2 ≤ 1099511627776
    case neg => rw [if_pos c1, if_neg c2, if_neg (fun z => c2 z.2.1), j1_false]
    by_cases c3 : 0 ≤ x.f3 ∧ x.f3 ≤ 1099511627776
    case neg => rw [if_pos c1, if_pos c2, if_neg c3, if_neg (fun z => c3 z.2.2.1), j1_false]
    by_cases c4 : 0 ≤ x.f4 ∧ x.f4 ≤ 1099511627776
    case neg => rw [if_pos c1, if_pos c2, if_pos c3, if_neg c4, if_neg (fun z => c4 z.2.2.2.1), j1_false]
    rw [if_pos c1, if_pos c2, if_pos c3, if_pos c4]
    by_cases c5 : 1 ≤ x.f5 ∧ x.f5 ≤ 1099511627776
    case neg => rw [decide_eq_false c5, if_neg (fun z => c5 z.2.2.2.2.1), j1_false]
    rw [decide_eq_true c5, plan_Restock.j1, if_pos rfl, code_eq]
    simp only [Option.bind_some, decide_eq_true_eq]
    by_cases c6 : 1 ≤ (x.f0.size : Int) ∧ (x.f0.size : Int) ≤ 40
    case neg => rw [if_neg c6, if_neg (fun z => c6 z.2.2.2.2.2.1), j2_true]
    rw [if_pos c6]
    have go : plan_Restock.j2 (m + 1) xs out i xs xs.length i false x.f0 x.f1 x.f2 x.f3 x.f4 x.f5 = some (spec xs d (i + 1) (lineOf x out)) := by
      rw [plan_Restock.j2, if_neg (by decide), w1, ← ih]
      unfold lineOf
      by_cases a1 : wrap64 (x.f1 + x.f2) ≤ x.f3
      · rw [if_pos a1, if_pos a1]
        by_cases a2 : wrap64 (x.f1 + x.f2) < x.f4
        · rw [if_pos a2, if_pos a2, if_neg (by omega), if_pos (by omega)]
        · rw [if_neg a2, if_neg a2]
      · rw [if_neg a1, if_neg a1]
    by_cases c0 : i > 0
    · have w0 : wrap64 (i - 1) = i - 1 := pr_wrap _ (by omega) (by omega)
      rw [if_pos c0, w0, if_pos (by omega), if_pos (by omega)]
      have b0 : (i == 0) = false := by simp; omega
      rw [b0]
      by_cases c7 : Op.bytesLess (rd_T24 xs (i - 1)).f0.toList x.f0.toList = true
      · rw [c7, if_pos ⟨c1, c2, c3, c4, c5, c6, Or.inr c7⟩]
        exact go
      · have c7' := Bool.eq_false_iff.2 c7
        rw [c7', if_neg (fun z => z.2.2.2.2.2.2.elim (fun y => nomatch y) c7)]
        exact j2_true _ _ _ _ _ _ _ _ _ _ _ _ _
    · have b0 : (i == 0) = true := by simp; omega
      rw [if_neg c0, b0, if_pos ⟨c1, c2, c3, c4, c5, c6, Or.inl rfl⟩]
      exact go

theorem ref_l1 (m : Nat) (x0 : List S24) (x5 : List S33) (x6 : Int) (ok : Bool) (a b c d : Int) (y0 : ByteArray) (y1 y2 y3 y4 y5 : Int) :
    larderref17_Restock.l1 (m + 5) x0 x5 x6 ok [a, b, c, d] 0 y0 y1 y2 y3 y4 y5 =
      larderref17_Restock.j3 m x0 x5 x6 (!(ok && decide (0 ≤ a ∧ a ≤ 1099511627776) && decide (0 ≤ b ∧ b ≤ 1099511627776) && decide (0 ≤ c ∧ c ≤ 1099511627776) && decide (0 ≤ d ∧ d ≤ 1099511627776) && decide (1 ≤ y5 ∧ y5 ≤ 1099511627776))) y0 y1 y2 y3 y4 y5 := by
  have step : ∀ (n : Nat) (o : Bool) (i : Int) (v : Int), 0 ≤ i → i < 4 → rd [a, b, c, d] i = v → larderref17_Restock.l1 (n + 1) x0 x5 x6 o [a, b, c, d] i y0 y1 y2 y3 y4 y5 = larderref17_Restock.l1 n x0 x5 x6 (o && decide (0 ≤ v ∧ v ≤ 1099511627776)) [a, b, c, d] (i + 1) y0 y1 y2 y3 y4 y5 := by
    intro n o i v h0 h4 hv
    have w : wrap64 (i + 1) = i + 1 := pr_wrap _ (by omega) (by omega)
    rw [larderref17_Restock.l1, if_pos h4, if_pos h0, if_pos (by simp; omega), hv, w]
    by_cases c1 : v < 0
    · rw [if_pos c1, decide_eq_false (by omega), Bool.and_false]
    · rw [if_neg c1]
      by_cases c2 : v > 1099511627776
      · rw [if_pos c2, decide_eq_false (by omega), Bool.and_false]
      · rw [if_neg c2, decide_eq_true (by omega), Bool.and_true]
  rw [step (m + 4) ok 0 a (by omega) (by omega) rfl, step (m + 3) _ (0 + 1) b (by omega) (by omega) rfl, step (m + 2) _ (0 + 1 + 1) c (by omega) (by omega) rfl, step (m + 1) _ (0 + 1 + 1 + 1) d (by omega) (by omega) rfl]
  rw [larderref17_Restock.l1, if_neg (by omega)]
  generalize (ok && decide (0 ≤ a ∧ a ≤ 1099511627776) && decide (0 ≤ b ∧ b ≤ 1099511627776) && decide (0 ≤ c ∧ c ≤ 1099511627776) && decide (0 ≤ d ∧ d ≤ 1099511627776)) = o
  cases o
  · rw [if_neg (by decide)]
    simp
  · rw [if_pos rfl]
    by_cases c1 : y5 < 1
    · rw [if_pos c1, decide_eq_false (p := 1 ≤ y5 ∧ y5 ≤ 1099511627776) (by omega)]
      rfl
    · rw [if_neg c1]
      by_cases c2 : y5 > 1099511627776
      · rw [decide_eq_true c2, decide_eq_false (p := 1 ≤ y5 ∧ y5 ≤ 1099511627776) (by omega)]
        rfl
      · rw [decide_eq_false c2, decide_eq_true (p := 1 ≤ y5 ∧ y5 ≤ 1099511627776) (by omega)]
        rfl

theorem line_eq (s : ByteArray) (prev : ByteArray) (first : Bool) : larderref17_line.f s 1 prev first 1 = some (decide ((1 ≤ (s.size : Int) ∧ (s.size : Int) ≤ 40) ∧ (first = true ∨ Op.bytesLess prev.toList s.toList = true))) := by
  unfold larderref17_line.f
  by_cases c1 : (s.size : Int) < 1
  · rw [if_pos c1, decide_eq_false (by omega)]
  · rw [if_neg c1]
    by_cases c2 : (s.size : Int) > 40
    · rw [if_pos c2, decide_eq_false (by omega)]
    · rw [if_neg c2, if_neg (by omega), if_neg (by omega)]
      cases first
      · rw [if_neg (by decide)]
        congr 1
        cases h : Op.bytesLess prev.toList s.toList
        · simp
        · simp
          omega
      · rw [if_pos rfl, decide_eq_true ⟨by omega, Or.inl rfl⟩]

theorem ref_tells (xs : List S24) (hl : xs.length ≤ 512) : ∀ (d k : Nat) (i : Int) (out : List S33), 0 ≤ i → i + d = xs.length → out.length ≤ i → 8 * d + 8 ≤ k →
    larderref17_Restock.l0 k xs out i = some (spec xs d i out)
  | 0, k, i, out, h0, hd, ho, hk => by
    obtain ⟨m, rfl⟩ : ∃ m, k = m + 1 := ⟨k - 1, by omega⟩
    rw [larderref17_Restock.l0, if_neg (by omega)]
    rfl
  | d + 1, k, i, out, h0, hd, ho, hk => by
    obtain ⟨m, rfl⟩ : ∃ m, k = m + 8 := ⟨k - 8, by omega⟩
    have ih := ref_tells xs hl d m (i + 1) (lineOf (rd_T24 xs i) out) (by omega) (by omega) (by have := lineOf_len (rd_T24 xs i) out; omega) (by omega)
    have w1 : wrap64 (i + 1) = i + 1 := pr_wrap _ (by omega) (by omega)
    rw [larderref17_Restock.l0, if_pos (by omega), if_pos h0, spec]
    have fin : ∀ (prev : ByteArray) (first : Bool), (first = true ∨ prev = (rd_T24 xs (i - 1)).f0) → (i == 0) = first →
        larderref17_Restock.j1 (m + 7) xs out i prev (rd_T24 xs i).f0 (rd_T24 xs i).f1 (rd_T24 xs i).f2 (rd_T24 xs i).f3 (rd_T24 xs i).f4 (rd_T24 xs i).f5 =
          some (if itemOk (i == 0) (rd_T24 xs (i - 1)).f0 (rd_T24 xs i) then spec xs d (i + 1) (lineOf (rd_T24 xs i) out) else ([], 171, i)) := by
      intro prev first hp hf
      rw [hf]
      have hpe : (first = true ∨ Op.bytesLess prev.toList (rd_T24 xs i).f0.toList = true) ↔ (first = true ∨ Op.bytesLess (rd_T24 xs (i - 1)).f0.toList (rd_T24 xs i).f0.toList = true) := by
        rcases hp with hp | hp
        · simp [hp]
        · rw [hp]
      generalize rd_T24 xs i = x at *
      rw [larderref17_Restock.j1, hf, line_eq]
      simp only [Option.bind_some]
      rw [ref_l1]
      by_cases ok : itemOk first (rd_T24 xs (i - 1)).f0 x
      · rw [if_pos ok]
        obtain ⟨c1, c2, c3, c4, c5, c6, c7⟩ := ok
        rw [decide_eq_true (p := (1 ≤ (x.f0.size : Int) ∧ (x.f0.size : Int) ≤ 40) ∧ _) ⟨c6, hpe.2 c7⟩, decide_eq_true c1, decide_eq_true c2, decide_eq_true c3, decide_eq_true c4, decide_eq_true c5]
        show larderref17_Restock.j3 (m + 1) xs out i false x.f0 x.f1 x.f2 x.f3 x.f4 x.f5 = _
        rw [larderref17_Restock.j3, if_neg (by decide), w1, ← ih]
        unfold lineOf
        by_cases a1 : wrap64 (x.f1 + x.f2) ≤ x.f3
        · rw [if_pos a1, if_pos a1]
          by_cases a2 : wrap64 (x.f1 + x.f2) < x.f4
          · rw [if_pos a2, if_pos a2, if_neg (by omega), if_pos (by omega)]
          · rw [if_neg a2, if_neg a2]
        · rw [if_neg a1, if_neg a1]
      · rw [if_neg ok]
        have hz : (!(decide ((1 ≤ (x.f0.size : Int) ∧ (x.f0.size : Int) ≤ 40) ∧ (first = true ∨ Op.bytesLess prev.toList x.f0.toList = true)) && decide (0 ≤ x.f1 ∧ x.f1 ≤ 1099511627776) && decide (0 ≤ x.f2 ∧ x.f2 ≤ 1099511627776) && decide (0 ≤ x.f3 ∧ x.f3 ≤ 1099511627776) && decide (0 ≤ x.f4 ∧ x.f4 ≤ 1099511627776) && decide (1 ≤ x.f5 ∧ x.f5 ≤ 1099511627776))) = true := by
          rw [Bool.not_eq_true']
          rw [Bool.eq_false_iff]
          intro hall
          simp only [Bool.and_eq_true, decide_eq_true_eq] at hall
          obtain ⟨⟨⟨⟨⟨⟨c6, c7⟩, c1⟩, c2⟩, c3⟩, c4⟩, c5⟩ := hall
          exact ok ⟨c1, c2, c3, c4, c5, c6, hpe.1 c7⟩
        rw [hz, larderref17_Restock.j3, if_pos rfl]
    by_cases c0 : i > 0
    · have w0 : wrap64 (i - 1) = i - 1 := pr_wrap _ (by omega) (by omega)
      rw [if_pos c0, w0, if_pos (by omega), if_pos (by omega)]
      exact fin _ false (Or.inr rfl) (by simp; omega)
    · rw [if_neg c0]
      exact fin _ true (Or.inl rfl) (by simp; omega)

/-- What both answer. -/
def answer (xs : List S24) : List S33 × Int × Int := if xs.length > 512 then ([], 1, 0) else spec xs xs.length 0 []

theorem plan_answers (xs : List S24) : Ev (fun k => plan_Restock.f k xs) (answer xs) := by
  refine ⟨3 * xs.length + 3, fun k hk => ?_⟩
  show plan_Restock.f k xs = _
  unfold plan_Restock.f answer
  by_cases h : xs.length > 512
  · rw [if_pos (by omega), if_pos h]
  · rw [if_neg (by omega), if_neg h]
    exact plan_tells xs (by omega) xs.length k 0 [] (by omega) (by omega) (by simp) hk

theorem ref_answers (xs : List S24) : Ev (fun k => larderref17_Restock.f k xs) (answer xs) := by
  refine ⟨8 * xs.length + 8, fun k hk => ?_⟩
  show larderref17_Restock.f k xs = _
  unfold larderref17_Restock.f answer
  by_cases h : xs.length > 512
  · rw [if_pos (by omega), if_pos h]
  · rw [if_neg (by omega), if_neg h]
    exact ref_tells xs (by omega) xs.length k 0 [] (by omega) (by omega) (by simp) hk

theorem lines_self (xs : List S33) (hx : xs.length ≤ 4611686018427387904) : Ev (fun k => larderlaw17_lines.f k xs xs) true := by
  have loop : ∀ (d k : Nat) (i : Int), 0 ≤ i → i + d = xs.length → d < k → larderlaw17_lines.l0 k xs xs i = some true := by
    intro d
    induction d with
    | zero =>
      intro k i h0 hd hk
      obtain ⟨m, rfl⟩ : ∃ m, k = m + 1 := ⟨k - 1, by omega⟩
      rw [larderlaw17_lines.l0, if_neg (by omega)]
    | succ d ih =>
      intro k i h0 hd hk
      obtain ⟨m, rfl⟩ : ∃ m, k = m + 1 := ⟨k - 1, by omega⟩
      have w1 : wrap64 (i + 1) = i + 1 := pr_wrap _ (by omega) (by omega)
      rw [larderlaw17_lines.l0, if_pos (by omega), if_pos h0, if_pos (by omega), if_neg (by simp), w1]
      exact ih m (i + 1) (by omega) (by omega) (by omega)
  refine ⟨xs.length + 1, fun k hk => ?_⟩
  show larderlaw17_lines.f k xs xs = _
  unfold larderlaw17_lines.f
  rw [if_pos rfl]
  exact loop xs.length k 0 (by omega) (by omega) (by omega)

theorem spec_len (xs : List S24) : ∀ (d : Nat) (i : Int) (out : List S33), (spec xs d i out).1.length ≤ out.length + d
  | 0, i, out => by simp [spec]
  | d + 1, i, out => by
    rw [spec]
    split
    · have h1 := spec_len xs d (i + 1) (lineOf (rd_T24 xs i) out)
      have h2 := lineOf_len (rd_T24 xs i) out
      omega
    · simp

theorem answer_len (xs : List S24) : (answer xs).1.length ≤ 512 := by
  unfold answer
  split
  · simp
  · have := spec_len xs xs.length 0 []
    simp at this
    omega

/-- An item with another Have. -/
def halved (x : S24) : S24 := ⟨x.f0, wrap64 (Int.tdiv x.f1 2), x.f2, x.f3, x.f4, x.f5⟩

def mark : S24 := ⟨⟨#[98, 101, 104, 105, 110, 100]⟩, 0, 0, 0, 0, 0⟩

theorem rd_at (l : List S24) (i : Int) (h0 : 0 ≤ i) (h1 : i.toNat < l.length) : rd_T24 l i = l[i.toNat] := by
  unfold rd_T24
  rw [List.getD_eq_getElem?_getD, List.getElem?_eq_getElem h1]
  rfl

theorem turn_loop (xs : List S24) (hx : xs.length ≤ 4611686018427387904) (r : List S24) (K : Nat) (hK : ∀ k, K ≤ k → (plan_Restock.f k (xs.map halved)).bind (fun bt163 => (larderref17_Restock.f k (xs.map halved)).bind fun bt168 => (larderlaw17_lines.f k bt163.1 bt168.1).bind fun t173 => (if t173 = true then (if bt163.2.1 = bt168.2.1 then (some (bt163.2.2 == bt168.2.2)) else (some false)) else (some false))) = some true) :
    ∀ (d k : Nat) (i : Nat), i + d = xs.length → K + d < k →
      larderlaw17_PlanRestocks.l0 k xs ((xs.map halved).take i ++ xs.drop i ++ r) ((xs.map halved).take i ++ xs.drop i) (i : Int) = some true := by
  intro d
  induction d with
  | zero =>
    intro k i hd hk
    obtain ⟨m, rfl⟩ : ∃ m, k = m + 1 := ⟨k - 1, by omega⟩
    obtain rfl : i = xs.length := by omega
    have e1 : (xs.map halved).take xs.length ++ xs.drop xs.length = xs.map halved := by
      rw [List.drop_length, List.append_nil, List.take_of_length_le (by simp)]
    rw [larderlaw17_PlanRestocks.l0, if_neg (by omega), if_pos (by omega), e1, if_pos (by simp; omega)]
    have e2 : (xs.map halved ++ r).take ((xs.length : Int) : Int).toNat = xs.map halved := by simp
    rw [e2]
    exact hK m (by omega)
  | succ d ih =>
    intro k i hd hk
    obtain ⟨m, rfl⟩ : ∃ m, k = m + 1 := ⟨k - 1, by omega⟩
    have hi : i < xs.length := by omega
    have hlen : ((xs.map halved).take i ++ xs.drop i).length = xs.length := by simp; omega
    have w1 : wrap64 ((i : Int) + 1) = ((i + 1 : Nat) : Int) := by rw [pr_wrap _ (by omega) (by omega)]; omega
    have r0 : rd_T24 xs (i : Int) = xs[i] := rd_at xs i (by omega) (by simpa using hi)
    have g1 : ((xs.map halved).take i ++ xs.drop i)[i]'(by omega) = xs[i] := by
      rw [List.getElem_append_right (by simp; omega)]
      simp
      congr 1
      omega
    have r1 : rd_T24 ((xs.map halved).take i ++ xs.drop i ++ r) (i : Int) = xs[i] := by
      rw [rd_at _ _ (by omega) (by rw [List.length_append, hlen]; simp; omega)]
      show ((xs.map halved).take i ++ xs.drop i ++ r)[i]'_ = _
      rw [List.getElem_append_left (by omega)]
      exact g1
    have r2 : rd_T24 ((xs.map halved).take i ++ xs.drop i) (i : Int) = xs[i] := by
      rw [rd_at _ _ (by omega) (by simp; omega)]
      exact g1
    have nx : ((xs.map halved).take i ++ xs.drop i).set i (halved xs[i]) = (xs.map halved).take (i + 1) ++ xs.drop (i + 1) := by
      rw [List.set_append_right _ _ (by simp; omega)]
      have e3 : (List.map halved xs).take (i + 1) = (List.map halved xs).take i ++ [halved xs[i]] := by
        rw [List.take_succ_eq_append_getElem (by simpa using hi)]
        simp
      have e4 : xs.drop i = xs[i] :: xs.drop (i + 1) := List.drop_eq_getElem_cons hi
      rw [e3, e4]
      have e5 : i - ((List.map halved xs).take i).length = 0 := by simp; omega
      rw [e5, List.set_cons_zero, List.append_assoc, List.singleton_append]
    have e6 : ((xs.map halved).take i ++ xs.drop i ++ r).set i (halved xs[i]) = (xs.map halved).take (i + 1) ++ xs.drop (i + 1) ++ r := by
      rw [List.set_append_left _ _ (by omega), nx]
    have r3 : rd_T24 ((xs.map halved).take (i + 1) ++ xs.drop (i + 1) ++ r) (i : Int) = halved xs[i] := by
      rw [← e6, rd_at _ _ (by omega) (by simp; omega)]
      show (List.set _ i (halved xs[i]))[i]'_ = _
      rw [List.getElem_set_self]
    rw [larderlaw17_PlanRestocks.l0, if_pos (by omega), if_pos (by omega), if_pos (by rw [List.length_append, hlen]; omega), r0, r1, if_neg (by simp)]
    simp only [Option.bind_some, Int.toNat_natCast]
    rw [if_pos (by rw [hlen]; omega)]
    show larderlaw17_PlanRestocks.l0 m xs (((xs.map halved).take i ++ xs.drop i ++ r).set i (halved xs[i])) _ _ = _
    have r4 : rd_T24 (((xs.map halved).take i ++ xs.drop i ++ r).set i ⟨xs[i].f0, wrap64 (Int.tdiv xs[i].f1 2), xs[i].f2, xs[i].f3, xs[i].f4, xs[i].f5⟩) (i : Int) = halved xs[i] := by
      rw [← e6] at r3
      exact r3
    rw [r2, r4, e6, w1]
    show larderlaw17_PlanRestocks.l0 m xs _ (((xs.map halved).take i ++ xs.drop i).set i (halved xs[i])) _ = _
    rw [nx]
    exact ih m (i + 1) (by omega) (by omega)

theorem both (xs : List S24) : ∃ K, ∀ k, K ≤ k → plan_Restock.f k xs = some (answer xs) ∧ larderref17_Restock.f k xs = some (answer xs) ∧ larderlaw17_lines.f k (answer xs).1 (answer xs).1 = some true := by
  obtain ⟨K1, h1⟩ := plan_answers xs
  obtain ⟨K2, h2⟩ := ref_answers xs
  obtain ⟨K3, h3⟩ := lines_self (answer xs).1 (by have := answer_len xs; omega)
  exact ⟨max K1 (max K2 K3), fun k hk => ⟨h1 k (by omega), h2 k (by omega), h3 k (by omega)⟩⟩

theorem PlanRestocks : larderlaw17_PlanRestocks.Pure := by
  intro xs hx
  obtain ⟨_, hsz, _⟩ := hx
  obtain ⟨K1, h1⟩ := both xs
  obtain ⟨K2, h2⟩ := both (xs.map halved)
  have hK : ∀ k, K2 ≤ k → (plan_Restock.f k (xs.map halved)).bind (fun bt163 => (larderref17_Restock.f k (xs.map halved)).bind fun bt168 => (larderlaw17_lines.f k bt163.1 bt168.1).bind fun t173 => (if t173 = true then (if bt163.2.1 = bt168.2.1 then (some (bt163.2.2 == bt168.2.2)) else (some false)) else (some false))) = some true := by
    intro k hk
    obtain ⟨a, b, c⟩ := h2 k hk
    rw [a, b]
    simp only [Option.bind_some]
    rw [c]
    simp
  refine ⟨K1 + K2 + xs.length + 5, ?_⟩
  obtain ⟨a, b, c⟩ := h1 (K1 + K2 + xs.length + 5) (by omega)
  unfold larderlaw17_PlanRestocks.f
  rw [if_pos (by simp; omega)]
  simp only [Option.bind_some, List.nil_append]
  rw [if_pos (by omega)]
  rw [if_pos (by omega), if_pos (by simp; omega)]
  have e1 : (xs ++ [mark]).take ((xs.length : Int) : Int).toNat = xs := by simp
  have e2 : rd_T24 (xs ++ [mark]) (xs.length : Int) = mark := by
    rw [rd_at _ _ (by omega) (by simp)]
    simp
  show ((plan_Restock.f _ ((xs ++ [mark]).take ((xs.length : Int) : Int).toNat)).bind fun bt138 => _) = some true
  rw [e1, a]
  simp only [Option.bind_some]
  rw [b]
  simp only [Option.bind_some]
  rw [c]
  simp only [Option.bind_some, if_true]
  rw [if_pos (by simp; omega)]
  show larderlaw17_PlanRestocks.j0 _ xs (xs ++ [mark]) ((rd_T24 (xs ++ [mark]) (xs.length : Int)).f0.toList != _) = _
  rw [e2]
  have e3 : (mark.f0.toList != ([98, 101, 104, 105, 110, 100] : List UInt8)) = false := by decide +kernel
  rw [e3]
  show larderlaw17_PlanRestocks.j0 (K1 + K2 + xs.length + 4 + 1) xs (xs ++ [mark]) false = _
  rw [larderlaw17_PlanRestocks.j0, if_neg (by decide), if_pos (by simp; omega)]
  have := turn_loop xs (by omega) [mark] K2 hK xs.length (K1 + K2 + xs.length + 4) 0 (by omega) (by omega)
  simpa using this

end Go.Proofs.Ytoopoecopahcbaa.Pure
