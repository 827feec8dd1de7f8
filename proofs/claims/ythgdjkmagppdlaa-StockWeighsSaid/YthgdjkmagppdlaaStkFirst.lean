-- Own text of this session: made by program (wip/myprint.sh over a scratch copy of the kit's print.py). Not trusted: Lean checks it.
import Derived.Test.YthgdjkmagppdlaaStockFirst
import Derived.Test.YthgdjkmagppdlaaQStockWeighsx0
import Derived.Test.YthgdjkmagppdlaaQStockWeighsx2
import Derived.Test.YthgdjkmagppdlaaQStockWeighsx3
import Derived.Test.YthgdjkmagppdlaaQStockWeighsx4
namespace Go.Proofs.Ythgdjkmagppdlaa.QStockWeighs
open Go.RowKit Go.Proofs.YthgdjkmagppdlaaW.PrintWords Go.Proofs.YthgdjkmagppdlaaW.PrintLast Go.Proofs.YthgdjkmagppdlaaW.PrintMore
attribute [local go_sem] max2_int min2_int max_two min_two max_three min_three max_four min_four   -- for this text's walks alone
set_option linter.unusedVariables false
set_option linter.unusedSimpArgs false

/-! ### stock_First: function 9 -/
set_option linter.unusedVariables false
def stock_First.f (k : Nat) (a0_0 : ByteArray) (a0_1 : Int) (l0_2 : List (S72)) (a0_3 : ByteArray) (a0_4 : Int) (a0_5 : Int) (a0_6 : Int) : Option (ByteArray × Int × Int × (List (S59)) × Int) := some (a0_0, 0, 0, [], Sw.firstN a0_1 a0_6 a0_4)
theorem stock_First.calls (k : Nat) (a0_0 : ByteArray) (a0_1 : Int) (A0_2 : Option Addr) (c0_2 : Nat) (l0_2 : List (S72)) (a0_3 : ByteArray) (a0_4 : Int) (a0_5 : Int) (a0_6 : Int) (r1 : ByteArray) (r2 : Int) (r3 : Int) (r4 : List (S59)) (r5 : Int) (w : World) (hr0_2 : Kd.C k72 w A0_2 l0_2.length l0_2) (hc0_2 : l0_2.length ≤ c0_2) (h : stock_First.f k a0_0 a0_1 l0_2 a0_3 a0_4 a0_5 a0_6 = some (r1, r2, r3, r4, r5)) :
    Calls Try.prog 9 #[.agg #[.string a0_0, .int .i64 a0_1, .slice A0_2 l0_2.length c0_2, .string a0_3, .int .i64 a0_4, .int .i64 a0_5, .int .i64 a0_6]] w fun e w' => ∃ v3_ : Value, e = .returned (.agg #[.string r1, .int .i64 r2, .int .i64 r3, v3_, .int .i64 r5]) ∧ Kd.R k59 59 w' w.heap.size (fun _ => True) v3_ r4 ∧ Below w.heap.size w w' := by
  have h' := Option.some.inj h
  injection h' with e1 h'
  injection h' with e2 h'
  injection h' with e3 h'
  injection h' with e4 e5
  subst e1 e2 e3 e4 e5
  refine (Sw.first_calls a0_0 a0_3 a0_1 a0_4 a0_5 a0_6 A0_2 l0_2.length c0_2 w).mono ?_
  rintro e w' ⟨rfl, hb⟩
  exact ⟨_, rfl, Kd.R_nil _ _ _ _ _, hb⟩

def larderref12_First.f (a0_0 : ByteArray) (a0_1 : Int) (l0_2 : List (S72)) (a0_3 : ByteArray) (a0_4 : Int) (a0_5 : Int) (a0_6 : Int) : Option (ByteArray × Int × Int × (List (S59)) × Int) := some (a0_0, 0, 0, [], Sw.firstN a0_1 a0_6 a0_4)
theorem larderref12_First.calls (a0_0 : ByteArray) (a0_1 : Int) (A0_2 : Option Addr) (c0_2 : Nat) (l0_2 : List (S72)) (a0_3 : ByteArray) (a0_4 : Int) (a0_5 : Int) (a0_6 : Int) (r1 : ByteArray) (r2 : Int) (r3 : Int) (r4 : List (S59)) (r5 : Int) (w : World) (hr0_2 : Kd.C k72 w A0_2 l0_2.length l0_2) (hc0_2 : l0_2.length ≤ c0_2) (h : larderref12_First.f a0_0 a0_1 l0_2 a0_3 a0_4 a0_5 a0_6 = some (r1, r2, r3, r4, r5)) :
    Calls Try.prog 10 #[.agg #[.string a0_0, .int .i64 a0_1, .slice A0_2 l0_2.length c0_2, .string a0_3, .int .i64 a0_4, .int .i64 a0_5, .int .i64 a0_6]] w fun e w' => ∃ v3_ : Value, e = .returned (.agg #[.string r1, .int .i64 r2, .int .i64 r3, v3_, .int .i64 r5]) ∧ Kd.R k59 59 w' w.heap.size (fun _ => True) v3_ r4 ∧ Below w.heap.size w w' := by
  have h' := Option.some.inj h
  injection h' with e1 h'
  injection h' with e2 h'
  injection h' with e3 h'
  injection h' with e4 e5
  subst e1 e2 e3 e4 e5
  refine (Sw.rfirst_calls a0_0 a0_3 a0_1 a0_4 a0_5 a0_6 A0_2 l0_2.length c0_2 w).mono ?_
  rintro e w' ⟨rfl, hb⟩
  exact ⟨_, rfl, Kd.R_nil _ _ _ _ _, hb⟩

end Go.Proofs.Ythgdjkmagppdlaa.QStockWeighs
