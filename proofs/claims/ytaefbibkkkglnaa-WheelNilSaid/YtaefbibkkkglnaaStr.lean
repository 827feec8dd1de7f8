/- Strings by '<=', '>' and '>=' for the walk, in the print's spelling. No condition. -/
import Derived.WalkKit
namespace Go.Proofs.Ytaefbibkkkglnaa.Str
open Go

theorem less_flip : ∀ a b : List UInt8, Op.bytesLess b a = !(Op.bytesLess a b || a == b)
  | [], [] => by simp [Op.bytesLess]
  | [], _ :: _ => by simp [Op.bytesLess]
  | _ :: _, [] => by simp [Op.bytesLess]
  | x :: a, y :: b => by
    have ih := less_flip a b
    simp only [Op.bytesLess, List.cons_beq_cons]
    rw [ih]
    by_cases h1 : x < y
    · have h2 : ¬ y < x := by
        have a1 := UInt8.lt_iff_toNat_lt.1 h1
        intro h
        have a2 := UInt8.lt_iff_toNat_lt.1 h
        omega
      have h3 : (y == x) = false := by
        rw [beq_eq_false_iff_ne]
        intro h
        subst h
        exact h2 h1
      simp [h1, h2, h3]
    · by_cases h2 : y < x
      · have h3 : (x == y) = false := by
          rw [beq_eq_false_iff_ne]
          intro h
          subst h
          exact h1 h2
        simp [h1, h2, h3]
      · have h3 : x = y := by
          apply UInt8.toNat_inj.1
          have a1 := mt UInt8.lt_iff_toNat_lt.2 h1
          have a2 := mt UInt8.lt_iff_toNat_lt.2 h2
          omega
        subst h3
        simp

@[go_sem] theorem leq (t : TypeId) (a b : ByteArray) : binOp .leq t (.string a) (.string b) = pure (.bool (!(Op.bytesLess b.toList a.toList))) := by
  rw [less_flip a.toList b.toList, Bool.not_not]
  simp [binOp, Op.stringOp]
@[go_sem] theorem gtr (t : TypeId) (a b : ByteArray) : binOp .gtr t (.string a) (.string b) = pure (.bool (Op.bytesLess b.toList a.toList)) := by
  rw [less_flip a.toList b.toList]
  simp [binOp, Op.stringOp]
@[go_sem] theorem geq (t : TypeId) (a b : ByteArray) : binOp .geq t (.string a) (.string b) = pure (.bool (!(Op.bytesLess a.toList b.toList))) := by simp [binOp, Op.stringOp]

end Go.Proofs.Ytaefbibkkkglnaa.Str
