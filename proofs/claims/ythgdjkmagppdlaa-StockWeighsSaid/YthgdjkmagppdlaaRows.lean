/-
  No cell of these rows narrows 'for every input' (looked for: loops, veiled, ifaces, maps, wideKeys, modest, calm, conditions, laid).
  DERIVED. THE GIVEN ROWS OF THIS SEAT. 3 by the template 'for every input the law returns true; each argument reads behind the call as it read before'; 0 by the template 'total and deterministic' (their statements: YthgdjkmagppdlaaTotals.lean).
  GIVEN WITH THE SEED: the statements are not yours to turn. If you find one false, say at which input.
  Laid BY PROGRAM, IN A SANDBOX (cutbox-rows.mjs): the forced cells as the released guide's own fill.sh prints them over the translation fe89c94f75f8704d… (all of the seat's roots in one cut). By AI agents, Wed Nov 11 2026. No macro, syntax, notation, axiom, sorry.
-/
import Derived.Test.YthgdjkmagppdlaaChecked
import GoSem.Claim
import GoSem.ClaimJoined
import GoSem.ClaimMapViews
import Derived.JoinedTies
import Derived.KernelRfl
namespace Go.Proofs.Ythgdjkmagppdlaa
/- THE CELL 'sum', in the pinned program and in every row, IS THE sha256 OF THE DUMP (.gsa) THAT YthgdjkmagppdlaaProg.lean LOADS. Nothing in Lean hashes anything: it is a label: what it is worth is what the hold of that sum in a sandbox is worth. -/
noncomputable def Try.pinned : Pinned := { name := "ythgdjkmagppdlaa", sum := "fe89c94f75f8704d93421d86a86172782d5da1470b146e7a2393ec70890ef114", checked := Try.checked }
namespace Rows
def none {H : Type} : Left H := { results := [], args := [] }

/-- 'larderlaw12.StockWeighs': WHATEVER THE INPUT: true; the input reads as it did. -/
def stockWeighsSpec : ChangeSpec := { name := "stockWeighs", fn := fun _ => fun
  | [d1, d2] => { results := [.lit (.bool true)], args := [d1, d2] }
  | _ => none }
def stockWeighsRow : OpenClaim := { program := "ythgdjkmagppdlaa", sum := "fe89c94f75f8704d93421d86a86172782d5da1470b146e7a2393ec70890ef114", func := "larder/larderlaw12.StockWeighs", spec := "stockWeighs", apart := false }
def StockWeighsSaid : Prop := stockWeighsRow.holds Try.pinned (OpenSpec.ofChange stockWeighsSpec)

/-- ITS FALSE NEIGHBOUR: 'it returns false'. Refute it at one input. -/
def stockWeighsWrong : ChangeSpec := { name := "stockWeighs", fn := fun _ => fun
  | [d1, d2] => { results := [.lit (.bool false)], args := [d1, d2] }
  | _ => none }
def StockWeighsWrongFalsely : Prop := stockWeighsRow.holds Try.pinned (OpenSpec.ofChange stockWeighsWrong)

/-- 'larderlaw12.StockChecks': WHATEVER THE INPUT: true; the input reads as it did. -/
def stockChecksSpec : ChangeSpec := { name := "stockChecks", fn := fun _ => fun
  | [d] => { results := [.lit (.bool true)], args := [d] }
  | _ => none }
def stockChecksRow : OpenClaim := { program := "ythgdjkmagppdlaa", sum := "fe89c94f75f8704d93421d86a86172782d5da1470b146e7a2393ec70890ef114", func := "larder/larderlaw12.StockChecks", spec := "stockChecks", inPlace := ["internal/bytealg.abigen_runtime_cmpstring"], unfollowed := true, recurses := true, apart := false }
def StockChecksSaid : Prop := stockChecksRow.holds Try.pinned (OpenSpec.ofChange stockChecksSpec)

/-- ITS FALSE NEIGHBOUR: 'it returns false'. Refute it at one input. -/
def stockChecksWrong : ChangeSpec := { name := "stockChecks", fn := fun _ => fun
  | [d] => { results := [.lit (.bool false)], args := [d] }
  | _ => none }
def StockChecksWrongFalsely : Prop := stockChecksRow.holds Try.pinned (OpenSpec.ofChange stockChecksWrong)

/-- 'larderlaw12.StockNews': WHATEVER THE INPUT: true; the input reads as it did. -/
def stockNewsSpec : ChangeSpec := { name := "stockNews", fn := fun _ => fun
  | [d1, d2] => { results := [.lit (.bool true)], args := [d1, d2] }
  | _ => none }
def stockNewsRow : OpenClaim := { program := "ythgdjkmagppdlaa", sum := "fe89c94f75f8704d93421d86a86172782d5da1470b146e7a2393ec70890ef114", func := "larder/larderlaw12.StockNews", spec := "stockNews", unfollowed := true, recurses := true, apart := false }
def StockNewsSaid : Prop := stockNewsRow.holds Try.pinned (OpenSpec.ofChange stockNewsSpec)

/-- ITS FALSE NEIGHBOUR: 'it returns false'. Refute it at one input. -/
def stockNewsWrong : ChangeSpec := { name := "stockNews", fn := fun _ => fun
  | [d1, d2] => { results := [.lit (.bool false)], args := [d1, d2] }
  | _ => none }
def StockNewsWrongFalsely : Prop := stockNewsRow.holds Try.pinned (OpenSpec.ofChange stockNewsWrong)

/- THE SECOND FORM. 'bulk': how many values and letters a reading holds, each counted each time it is reached (what is shared counts as often as it is met; a slice's spare places count too). A statement '..UptoSaid' is the law's where the arguments, and the package variables that the reading takes, are together of bulk at most 1048576: NARROWER than '..Said'. Prove '..Said' where nothing that the law and all that it calls make is longer than what came in: it says more and counts as full. Else prove '..UptoSaid'. A law counts once. -/
mutual
def uptoBulk {H : Type} : DataW H → Nat
  | .lit (.string bytes) => bytes.length + 1
  | .lit _ => 1
  | .nil => 1
  | .ptr d => uptoBulk d + 1
  | .slice elems spare => uptoBulkAll elems + uptoBulkAll spare + 1
  | .agg parts => uptoBulkAll parts + 1
  | .iface _ d => uptoBulk d + 1
  | .map entries => uptoBulkEntries entries + 1
  | .held _ => 1
def uptoBulkAll {H : Type} : List (DataW H) → Nat
  | [] => 0
  | d :: r => uptoBulk d + uptoBulkAll r
def uptoBulkEntries {H : Type} : List (Lit × DataW H) → Nat
  | [] => 0
  | x :: r => uptoBulkEntry x + uptoBulkEntries r
def uptoBulkEntry {H : Type} : Lit × DataW H → Nat
  | (.string bytes, d) => bytes.length + uptoBulk d + 1
  | (_, d) => uptoBulk d + 1
 end
def uptoSmall : (H : Type) → List (DataW H) → Bool := fun _ ds => decide (uptoBulkAll ds ≤ 1048576)
def OpenSpec.upto (s : _root_.Go.ChangeSpec) : _root_.Go.OpenSpec := { _root_.Go.OpenSpec.ofChange s with cond := some uptoSmall }

/-- 'larderlaw12.StockWeighs', WHERE WHAT IT READS IS OF BULK AT MOST 1048576: true; the input reads as it did. -/
def stockWeighsUptoRow : OpenClaim := { program := "ythgdjkmagppdlaa", sum := "fe89c94f75f8704d93421d86a86172782d5da1470b146e7a2393ec70890ef114", func := "larder/larderlaw12.StockWeighs", spec := "stockWeighs", apart := false, narrowed := true }
def StockWeighsUptoSaid : Prop := stockWeighsUptoRow.holds Try.pinned (OpenSpec.upto stockWeighsSpec)

/-- 'larderlaw12.StockChecks', WHERE WHAT IT READS IS OF BULK AT MOST 1048576: true; the input reads as it did. -/
def stockChecksUptoRow : OpenClaim := { program := "ythgdjkmagppdlaa", sum := "fe89c94f75f8704d93421d86a86172782d5da1470b146e7a2393ec70890ef114", func := "larder/larderlaw12.StockChecks", spec := "stockChecks", inPlace := ["internal/bytealg.abigen_runtime_cmpstring"], unfollowed := true, recurses := true, apart := false, narrowed := true }
def StockChecksUptoSaid : Prop := stockChecksUptoRow.holds Try.pinned (OpenSpec.upto stockChecksSpec)

/-- 'larderlaw12.StockNews', WHERE WHAT IT READS IS OF BULK AT MOST 1048576: true; the input reads as it did. -/
def stockNewsUptoRow : OpenClaim := { program := "ythgdjkmagppdlaa", sum := "fe89c94f75f8704d93421d86a86172782d5da1470b146e7a2393ec70890ef114", func := "larder/larderlaw12.StockNews", spec := "stockNews", unfollowed := true, recurses := true, apart := false, narrowed := true }
def StockNewsUptoSaid : Prop := stockNewsUptoRow.holds Try.pinned (OpenSpec.upto stockNewsSpec)

end Rows
end Go.Proofs.Ythgdjkmagppdlaa
