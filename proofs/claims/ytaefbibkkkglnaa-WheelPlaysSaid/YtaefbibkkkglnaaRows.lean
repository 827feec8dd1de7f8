/-
  No cell of these rows narrows 'for every input' (looked for: loops, veiled, ifaces, maps, wideKeys, modest, calm, conditions, laid).
  DERIVED. THE GIVEN ROWS OF THIS SEAT. 7 by the template 'for every input the law returns true; each argument reads behind the call as it read before'; 0 by the template 'total and deterministic' (their statements: YtaefbibkkkglnaaTotals.lean).
  GIVEN WITH THE SEED: the statements are not yours to turn. If you find one false, say at which input.
  Laid BY PROGRAM, IN A SANDBOX (cutbox-rows.mjs): the forced cells as the released guide's own fill.sh prints them over the translation 5113ebb1988003b5… (all of the seat's roots in one cut). By AI agents, Wed Nov 11 2026. No macro, syntax, notation, axiom, sorry.
-/
import Derived.Test.YtaefbibkkkglnaaChecked
import GoSem.Claim
import GoSem.ClaimJoined
import GoSem.ClaimMapViews
import Derived.JoinedTies
import Derived.KernelRfl
namespace Go.Proofs.Ytaefbibkkkglnaa
/- THE CELL 'sum', in the pinned program and in every row, IS THE sha256 OF THE DUMP (.gsa) THAT YtaefbibkkkglnaaProg.lean LOADS. Nothing in Lean hashes anything: it is a label: what it is worth is what the hold of that sum in a sandbox is worth. -/
noncomputable def Try.pinned : Pinned := { name := "ytaefbibkkkglnaa", sum := "5113ebb1988003b5f7a4ccc5bd2f8db267c6525d8e1ef43b2750af34541ed5d4", checked := Try.checked }
namespace Rows
def none {H : Type} : Left H := { results := [], args := [] }

/-- 'larderlaw11.WheelOnce': WHATEVER THE INPUT: true; the input reads as it did. -/
def wheelOnceSpec : ChangeSpec := { name := "wheelOnce", fn := fun _ => fun
  | [d1, d2, d3] => { results := [.lit (.bool true)], args := [d1, d2, d3] }
  | _ => none }
def wheelOnceRow : OpenClaim := { program := "ytaefbibkkkglnaa", sum := "5113ebb1988003b5f7a4ccc5bd2f8db267c6525d8e1ef43b2750af34541ed5d4", func := "larder/larderlaw11.WheelOnce", spec := "wheelOnce", unfollowed := true, recurses := true, apart := false }
def WheelOnceSaid : Prop := wheelOnceRow.holds Try.pinned (OpenSpec.ofChange wheelOnceSpec)

/-- ITS FALSE NEIGHBOUR: 'it returns false'. Refute it at one input. -/
def wheelOnceWrong : ChangeSpec := { name := "wheelOnce", fn := fun _ => fun
  | [d1, d2, d3] => { results := [.lit (.bool false)], args := [d1, d2, d3] }
  | _ => none }
def WheelOnceWrongFalsely : Prop := wheelOnceRow.holds Try.pinned (OpenSpec.ofChange wheelOnceWrong)

/-- 'larderlaw11.WheelMany': WHATEVER THE INPUT: true; the input reads as it did. -/
def wheelManySpec : ChangeSpec := { name := "wheelMany", fn := fun _ => fun
  | [d1, d2, d3, d4] => { results := [.lit (.bool true)], args := [d1, d2, d3, d4] }
  | _ => none }
def wheelManyRow : OpenClaim := { program := "ytaefbibkkkglnaa", sum := "5113ebb1988003b5f7a4ccc5bd2f8db267c6525d8e1ef43b2750af34541ed5d4", func := "larder/larderlaw11.WheelMany", spec := "wheelMany", unfollowed := true, recurses := true, apart := false }
def WheelManySaid : Prop := wheelManyRow.holds Try.pinned (OpenSpec.ofChange wheelManySpec)

/-- ITS FALSE NEIGHBOUR: 'it returns false'. Refute it at one input. -/
def wheelManyWrong : ChangeSpec := { name := "wheelMany", fn := fun _ => fun
  | [d1, d2, d3, d4] => { results := [.lit (.bool false)], args := [d1, d2, d3, d4] }
  | _ => none }
def WheelManyWrongFalsely : Prop := wheelManyRow.holds Try.pinned (OpenSpec.ofChange wheelManyWrong)

/-- 'larderlaw11.WheelOwn': WHATEVER THE INPUT: true; the input reads as it did. -/
def wheelOwnSpec : ChangeSpec := { name := "wheelOwn", fn := fun _ => fun
  | [d1, d2, d3] => { results := [.lit (.bool true)], args := [d1, d2, d3] }
  | _ => none }
def wheelOwnRow : OpenClaim := { program := "ytaefbibkkkglnaa", sum := "5113ebb1988003b5f7a4ccc5bd2f8db267c6525d8e1ef43b2750af34541ed5d4", func := "larder/larderlaw11.WheelOwn", spec := "wheelOwn", unfollowed := true, recurses := true, apart := false }
def WheelOwnSaid : Prop := wheelOwnRow.holds Try.pinned (OpenSpec.ofChange wheelOwnSpec)

/-- ITS FALSE NEIGHBOUR: 'it returns false'. Refute it at one input. -/
def wheelOwnWrong : ChangeSpec := { name := "wheelOwn", fn := fun _ => fun
  | [d1, d2, d3] => { results := [.lit (.bool false)], args := [d1, d2, d3] }
  | _ => none }
def WheelOwnWrongFalsely : Prop := wheelOwnRow.holds Try.pinned (OpenSpec.ofChange wheelOwnWrong)

/-- 'larderlaw11.WheelMoved': WHATEVER THE INPUT: true; the input reads as it did. -/
def wheelMovedSpec : ChangeSpec := { name := "wheelMoved", fn := fun _ => fun
  | [d1, d2, d3, d4] => { results := [.lit (.bool true)], args := [d1, d2, d3, d4] }
  | _ => none }
def wheelMovedRow : OpenClaim := { program := "ytaefbibkkkglnaa", sum := "5113ebb1988003b5f7a4ccc5bd2f8db267c6525d8e1ef43b2750af34541ed5d4", func := "larder/larderlaw11.WheelMoved", spec := "wheelMoved", unfollowed := true, recurses := true, apart := false }
def WheelMovedSaid : Prop := wheelMovedRow.holds Try.pinned (OpenSpec.ofChange wheelMovedSpec)

/-- ITS FALSE NEIGHBOUR: 'it returns false'. Refute it at one input. -/
def wheelMovedWrong : ChangeSpec := { name := "wheelMoved", fn := fun _ => fun
  | [d1, d2, d3, d4] => { results := [.lit (.bool false)], args := [d1, d2, d3, d4] }
  | _ => none }
def WheelMovedWrongFalsely : Prop := wheelMovedRow.holds Try.pinned (OpenSpec.ofChange wheelMovedWrong)

/-- 'larderlaw11.WheelRings': WHATEVER THE INPUT: true; the input reads as it did. -/
def wheelRingsSpec : ChangeSpec := { name := "wheelRings", fn := fun _ => fun
  | [d1, d2, d3] => { results := [.lit (.bool true)], args := [d1, d2, d3] }
  | _ => none }
def wheelRingsRow : OpenClaim := { program := "ytaefbibkkkglnaa", sum := "5113ebb1988003b5f7a4ccc5bd2f8db267c6525d8e1ef43b2750af34541ed5d4", func := "larder/larderlaw11.WheelRings", spec := "wheelRings", unfollowed := true, recurses := true, apart := false }
def WheelRingsSaid : Prop := wheelRingsRow.holds Try.pinned (OpenSpec.ofChange wheelRingsSpec)

/-- ITS FALSE NEIGHBOUR: 'it returns false'. Refute it at one input. -/
def wheelRingsWrong : ChangeSpec := { name := "wheelRings", fn := fun _ => fun
  | [d1, d2, d3] => { results := [.lit (.bool false)], args := [d1, d2, d3] }
  | _ => none }
def WheelRingsWrongFalsely : Prop := wheelRingsRow.holds Try.pinned (OpenSpec.ofChange wheelRingsWrong)

/-- 'larderlaw11.WheelPlays': WHATEVER THE INPUT: true; the input reads as it did. -/
def wheelPlaysSpec : ChangeSpec := { name := "wheelPlays", fn := fun _ => fun
  | [d1, d2] => { results := [.lit (.bool true)], args := [d1, d2] }
  | _ => none }
def wheelPlaysRow : OpenClaim := { program := "ytaefbibkkkglnaa", sum := "5113ebb1988003b5f7a4ccc5bd2f8db267c6525d8e1ef43b2750af34541ed5d4", func := "larder/larderlaw11.WheelPlays", spec := "wheelPlays", unfollowed := true, recurses := true, apart := false }
def WheelPlaysSaid : Prop := wheelPlaysRow.holds Try.pinned (OpenSpec.ofChange wheelPlaysSpec)

/-- ITS FALSE NEIGHBOUR: 'it returns false'. Refute it at one input. -/
def wheelPlaysWrong : ChangeSpec := { name := "wheelPlays", fn := fun _ => fun
  | [d1, d2] => { results := [.lit (.bool false)], args := [d1, d2] }
  | _ => none }
def WheelPlaysWrongFalsely : Prop := wheelPlaysRow.holds Try.pinned (OpenSpec.ofChange wheelPlaysWrong)

/-- 'larderlaw11.WheelNil': WHATEVER THE INPUT: true; the input reads as it did. -/
def wheelNilSpec : ChangeSpec := { name := "wheelNil", fn := fun _ => fun
  | [] => { results := [.lit (.bool true)], args := [] }
  | _ => none }
def wheelNilRow : OpenClaim := { program := "ytaefbibkkkglnaa", sum := "5113ebb1988003b5f7a4ccc5bd2f8db267c6525d8e1ef43b2750af34541ed5d4", func := "larder/larderlaw11.WheelNil", spec := "wheelNil", unfollowed := true, recurses := true, apart := false }
def WheelNilSaid : Prop := wheelNilRow.holds Try.pinned (OpenSpec.ofChange wheelNilSpec)

/-- ITS FALSE NEIGHBOUR: 'it returns false'. Refute it at one input. -/
def wheelNilWrong : ChangeSpec := { name := "wheelNil", fn := fun _ => fun
  | [] => { results := [.lit (.bool false)], args := [] }
  | _ => none }
def WheelNilWrongFalsely : Prop := wheelNilRow.holds Try.pinned (OpenSpec.ofChange wheelNilWrong)

/- THE SECOND FORM. 'bulk': how many values and letters a reading holds, each counted each time it is reached (what is shared counts as often as it is met; a slice's spare places count too). A statement '..UptoSaid' is the law's where the arguments, and the package variables that the reading takes, are together of bulk at most 1048576: NARROWER than '..Said'. Prove '..Said' where nothing that the law and all that it calls make is longer than what came in: it says more and counts as full. Else prove '..UptoSaid'. A law counts once. -/
mutual
def uptoBulk {H : Type} : DataW H → Nat
  | .lit (.string bytes) => bytes.length + 1
  | .lit _ => 1
  | .nil => 1
  | .ptr d => uptoBulk d + 1
  | .slice elems spare => uptoBulkAll elems + uptoBulkAll spare + 1
  | .agg parts => uptoBulkAll parts + 1
  | .iface _ d => uptoBulk d + 1
  | .map entries => uptoBulkEntries entries + 1
  | .held _ => 1
def uptoBulkAll {H : Type} : List (DataW H) → Nat
  | [] => 0
  | d :: r => uptoBulk d + uptoBulkAll r
def uptoBulkEntries {H : Type} : List (Lit × DataW H) → Nat
  | [] => 0
  | x :: r => uptoBulkEntry x + uptoBulkEntries r
def uptoBulkEntry {H : Type} : Lit × DataW H → Nat
  | (.string bytes, d) => bytes.length + uptoBulk d + 1
  | (_, d) => uptoBulk d + 1
 end
def uptoSmall : (H : Type) → List (DataW H) → Bool := fun _ ds => decide (uptoBulkAll ds ≤ 1048576)
def OpenSpec.upto (s : _root_.Go.ChangeSpec) : _root_.Go.OpenSpec := { _root_.Go.OpenSpec.ofChange s with cond := some uptoSmall }

/-- 'larderlaw11.WheelOnce', WHERE WHAT IT READS IS OF BULK AT MOST 1048576: true; the input reads as it did. -/
def wheelOnceUptoRow : OpenClaim := { program := "ytaefbibkkkglnaa", sum := "5113ebb1988003b5f7a4ccc5bd2f8db267c6525d8e1ef43b2750af34541ed5d4", func := "larder/larderlaw11.WheelOnce", spec := "wheelOnce", unfollowed := true, recurses := true, apart := false, narrowed := true }
def WheelOnceUptoSaid : Prop := wheelOnceUptoRow.holds Try.pinned (OpenSpec.upto wheelOnceSpec)

/-- 'larderlaw11.WheelMany', WHERE WHAT IT READS IS OF BULK AT MOST 1048576: true; the input reads as it did. -/
def wheelManyUptoRow : OpenClaim := { program := "ytaefbibkkkglnaa", sum := "5113ebb1988003b5f7a4ccc5bd2f8db267c6525d8e1ef43b2750af34541ed5d4", func := "larder/larderlaw11.WheelMany", spec := "wheelMany", unfollowed := true, recurses := true, apart := false, narrowed := true }
def WheelManyUptoSaid : Prop := wheelManyUptoRow.holds Try.pinned (OpenSpec.upto wheelManySpec)

/-- 'larderlaw11.WheelOwn', WHERE WHAT IT READS IS OF BULK AT MOST 1048576: true; the input reads as it did. -/
def wheelOwnUptoRow : OpenClaim := { program := "ytaefbibkkkglnaa", sum := "5113ebb1988003b5f7a4ccc5bd2f8db267c6525d8e1ef43b2750af34541ed5d4", func := "larder/larderlaw11.WheelOwn", spec := "wheelOwn", unfollowed := true, recurses := true, apart := false, narrowed := true }
def WheelOwnUptoSaid : Prop := wheelOwnUptoRow.holds Try.pinned (OpenSpec.upto wheelOwnSpec)

/-- 'larderlaw11.WheelMoved', WHERE WHAT IT READS IS OF BULK AT MOST 1048576: true; the input reads as it did. -/
def wheelMovedUptoRow : OpenClaim := { program := "ytaefbibkkkglnaa", sum := "5113ebb1988003b5f7a4ccc5bd2f8db267c6525d8e1ef43b2750af34541ed5d4", func := "larder/larderlaw11.WheelMoved", spec := "wheelMoved", unfollowed := true, recurses := true, apart := false, narrowed := true }
def WheelMovedUptoSaid : Prop := wheelMovedUptoRow.holds Try.pinned (OpenSpec.upto wheelMovedSpec)

/-- 'larderlaw11.WheelRings', WHERE WHAT IT READS IS OF BULK AT MOST 1048576: true; the input reads as it did. -/
def wheelRingsUptoRow : OpenClaim := { program := "ytaefbibkkkglnaa", sum := "5113ebb1988003b5f7a4ccc5bd2f8db267c6525d8e1ef43b2750af34541ed5d4", func := "larder/larderlaw11.WheelRings", spec := "wheelRings", unfollowed := true, recurses := true, apart := false, narrowed := true }
def WheelRingsUptoSaid : Prop := wheelRingsUptoRow.holds Try.pinned (OpenSpec.upto wheelRingsSpec)

/-- 'larderlaw11.WheelPlays', WHERE WHAT IT READS IS OF BULK AT MOST 1048576: true; the input reads as it did. -/
def wheelPlaysUptoRow : OpenClaim := { program := "ytaefbibkkkglnaa", sum := "5113ebb1988003b5f7a4ccc5bd2f8db267c6525d8e1ef43b2750af34541ed5d4", func := "larder/larderlaw11.WheelPlays", spec := "wheelPlays", unfollowed := true, recurses := true, apart := false, narrowed := true }
def WheelPlaysUptoSaid : Prop := wheelPlaysUptoRow.holds Try.pinned (OpenSpec.upto wheelPlaysSpec)

/-- 'larderlaw11.WheelNil', WHERE WHAT IT READS IS OF BULK AT MOST 1048576: true; the input reads as it did. -/
def wheelNilUptoRow : OpenClaim := { program := "ytaefbibkkkglnaa", sum := "5113ebb1988003b5f7a4ccc5bd2f8db267c6525d8e1ef43b2750af34541ed5d4", func := "larder/larderlaw11.WheelNil", spec := "wheelNil", unfollowed := true, recurses := true, apart := false, narrowed := true }
def WheelNilUptoSaid : Prop := wheelNilUptoRow.holds Try.pinned (OpenSpec.upto wheelNilSpec)

end Rows
end Go.Proofs.Ytaefbibkkkglnaa
