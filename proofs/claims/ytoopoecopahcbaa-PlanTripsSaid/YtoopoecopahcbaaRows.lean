/-
  No cell of these rows narrows 'for every input' (looked for: loops, veiled, ifaces, maps, wideKeys, modest, calm, conditions, laid).
  DERIVED. THE GIVEN ROWS OF THIS SEAT. 11 by the template 'for every input the law returns true; each argument reads behind the call as it read before'; 0 by the template 'total and deterministic' (their statements: YtoopoecopahcbaaTotals.lean).
  GIVEN WITH THE SEED: the statements are not yours to turn. If you find one false, say at which input.
  Laid BY PROGRAM, IN A SANDBOX (cutbox-rows.mjs): the forced cells as the released guide's own fill.sh prints them over the translation c6f1a33ff56ec202… (all of the seat's roots in one cut). By AI agents, Wed Nov 11 2026. No macro, syntax, notation, axiom, sorry.
-/
import Derived.Test.YtoopoecopahcbaaChecked
import GoSem.Claim
import GoSem.ClaimJoined
import GoSem.ClaimMapViews
import Derived.JoinedTies
import Derived.KernelRfl
namespace Go.Proofs.Ytoopoecopahcbaa
/- THE CELL 'sum', in the pinned program and in every row, IS THE sha256 OF THE DUMP (.gsa) THAT YtoopoecopahcbaaProg.lean LOADS. Nothing in Lean hashes anything: it is a label: what it is worth is what the hold of that sum in a sandbox is worth. -/
noncomputable def Try.pinned : Pinned := { name := "ytoopoecopahcbaa", sum := "c6f1a33ff56ec20201e232f998c873c9bc3bddc49999ece8afec967102545b68", checked := Try.checked }
namespace Rows
def none {H : Type} : Left H := { results := [], args := [] }

/-- 'larderlaw17.PlanRestocks': WHATEVER THE INPUT: true; the input reads as it did. -/
def planRestocksSpec : ChangeSpec := { name := "planRestocks", fn := fun _ => fun
  | [d] => { results := [.lit (.bool true)], args := [d] }
  | _ => none }
def planRestocksRow : OpenClaim := { program := "ytoopoecopahcbaa", sum := "c6f1a33ff56ec20201e232f998c873c9bc3bddc49999ece8afec967102545b68", func := "larder/larderlaw17.PlanRestocks", spec := "planRestocks", apart := false }
def PlanRestocksSaid : Prop := planRestocksRow.holds Try.pinned (OpenSpec.ofChange planRestocksSpec)

/-- ITS FALSE NEIGHBOUR: 'it returns false'. Refute it at one input. -/
def planRestocksWrong : ChangeSpec := { name := "planRestocks", fn := fun _ => fun
  | [d] => { results := [.lit (.bool false)], args := [d] }
  | _ => none }
def PlanRestocksWrongFalsely : Prop := planRestocksRow.holds Try.pinned (OpenSpec.ofChange planRestocksWrong)

/-- 'larderlaw17.PlanOrders': WHATEVER THE INPUT: true; the input reads as it did. -/
def planOrdersSpec : ChangeSpec := { name := "planOrders", fn := fun _ => fun
  | [d1, d2, d3, d4, d5] => { results := [.lit (.bool true)], args := [d1, d2, d3, d4, d5] }
  | _ => none }
def planOrdersRow : OpenClaim := { program := "ytoopoecopahcbaa", sum := "c6f1a33ff56ec20201e232f998c873c9bc3bddc49999ece8afec967102545b68", func := "larder/larderlaw17.PlanOrders", spec := "planOrders", apart := false }
def PlanOrdersSaid : Prop := planOrdersRow.holds Try.pinned (OpenSpec.ofChange planOrdersSpec)

/-- ITS FALSE NEIGHBOUR: 'it returns false'. Refute it at one input. -/
def planOrdersWrong : ChangeSpec := { name := "planOrders", fn := fun _ => fun
  | [d1, d2, d3, d4, d5] => { results := [.lit (.bool false)], args := [d1, d2, d3, d4, d5] }
  | _ => none }
def PlanOrdersWrongFalsely : Prop := planOrdersRow.holds Try.pinned (OpenSpec.ofChange planOrdersWrong)

/-- 'larderlaw17.PlanStrongs': WHATEVER THE INPUT: true; the input reads as it did. -/
def planStrongsSpec : ChangeSpec := { name := "planStrongs", fn := fun _ => fun
  | [d1, d2] => { results := [.lit (.bool true)], args := [d1, d2] }
  | _ => none }
def planStrongsRow : OpenClaim := { program := "ytoopoecopahcbaa", sum := "c6f1a33ff56ec20201e232f998c873c9bc3bddc49999ece8afec967102545b68", func := "larder/larderlaw17.PlanStrongs", spec := "planStrongs", inPlace := ["math.Float64bits", "math.Float64frombits"], apart := false }
def PlanStrongsSaid : Prop := planStrongsRow.holds Try.pinned (OpenSpec.ofChange planStrongsSpec)

/-- ITS FALSE NEIGHBOUR: 'it returns false'. Refute it at one input. -/
def planStrongsWrong : ChangeSpec := { name := "planStrongs", fn := fun _ => fun
  | [d1, d2] => { results := [.lit (.bool false)], args := [d1, d2] }
  | _ => none }
def PlanStrongsWrongFalsely : Prop := planStrongsRow.holds Try.pinned (OpenSpec.ofChange planStrongsWrong)

/-- 'larderlaw17.PlanTrips': WHATEVER THE INPUT: true; the input reads as it did. -/
def planTripsSpec : ChangeSpec := { name := "planTrips", fn := fun _ => fun
  | [d] => { results := [.lit (.bool true)], args := [d] }
  | _ => none }
def planTripsRow : OpenClaim := { program := "ytoopoecopahcbaa", sum := "c6f1a33ff56ec20201e232f998c873c9bc3bddc49999ece8afec967102545b68", func := "larder/larderlaw17.PlanTrips", spec := "planTrips", unfollowed := true, recurses := true, apart := false }
def PlanTripsSaid : Prop := planTripsRow.holds Try.pinned (OpenSpec.ofChange planTripsSpec)

/-- ITS FALSE NEIGHBOUR: 'it returns false'. Refute it at one input. -/
def planTripsWrong : ChangeSpec := { name := "planTrips", fn := fun _ => fun
  | [d] => { results := [.lit (.bool false)], args := [d] }
  | _ => none }
def PlanTripsWrongFalsely : Prop := planTripsRow.holds Try.pinned (OpenSpec.ofChange planTripsWrong)

/-- 'larderlaw17.PlanShortest': WHATEVER THE INPUT: true; the input reads as it did. -/
def planShortestSpec : ChangeSpec := { name := "planShortest", fn := fun _ => fun
  | [d1, d2] => { results := [.lit (.bool true)], args := [d1, d2] }
  | _ => none }
def planShortestRow : OpenClaim := { program := "ytoopoecopahcbaa", sum := "c6f1a33ff56ec20201e232f998c873c9bc3bddc49999ece8afec967102545b68", func := "larder/larderlaw17.PlanShortest", spec := "planShortest", unfollowed := true, recurses := true, apart := false }
def PlanShortestSaid : Prop := planShortestRow.holds Try.pinned (OpenSpec.ofChange planShortestSpec)

/-- ITS FALSE NEIGHBOUR: 'it returns false'. Refute it at one input. -/
def planShortestWrong : ChangeSpec := { name := "planShortest", fn := fun _ => fun
  | [d1, d2] => { results := [.lit (.bool false)], args := [d1, d2] }
  | _ => none }
def PlanShortestWrongFalsely : Prop := planShortestRow.holds Try.pinned (OpenSpec.ofChange planShortestWrong)

/-- 'larderlaw17.PlanReckons': WHATEVER THE INPUT: true; the input reads as it did. -/
def planReckonsSpec : ChangeSpec := { name := "planReckons", fn := fun _ => fun
  | [d1, d2] => { results := [.lit (.bool true)], args := [d1, d2] }
  | _ => none }
def planReckonsRow : OpenClaim := { program := "ytoopoecopahcbaa", sum := "c6f1a33ff56ec20201e232f998c873c9bc3bddc49999ece8afec967102545b68", func := "larder/larderlaw17.PlanReckons", spec := "planReckons", inPlace := ["math.sqrt"], unfollowed := true, recurses := true, apart := false }
def PlanReckonsSaid : Prop := planReckonsRow.holds Try.pinned (OpenSpec.ofChange planReckonsSpec)

/-- ITS FALSE NEIGHBOUR: 'it returns false'. Refute it at one input. -/
def planReckonsWrong : ChangeSpec := { name := "planReckons", fn := fun _ => fun
  | [d1, d2] => { results := [.lit (.bool false)], args := [d1, d2] }
  | _ => none }
def PlanReckonsWrongFalsely : Prop := planReckonsRow.holds Try.pinned (OpenSpec.ofChange planReckonsWrong)

/-- 'larderlaw17.PlanWhole': WHATEVER THE INPUT: true; the input reads as it did. -/
def planWholeSpec : ChangeSpec := { name := "planWhole", fn := fun _ => fun
  | [d1, d2, d3] => { results := [.lit (.bool true)], args := [d1, d2, d3] }
  | _ => none }
def planWholeRow : OpenClaim := { program := "ytoopoecopahcbaa", sum := "c6f1a33ff56ec20201e232f998c873c9bc3bddc49999ece8afec967102545b68", func := "larder/larderlaw17.PlanWhole", spec := "planWhole", inPlace := ["math.sqrt"], unfollowed := true, recurses := true, apart := false }
def PlanWholeSaid : Prop := planWholeRow.holds Try.pinned (OpenSpec.ofChange planWholeSpec)

/-- ITS FALSE NEIGHBOUR: 'it returns false'. Refute it at one input. -/
def planWholeWrong : ChangeSpec := { name := "planWhole", fn := fun _ => fun
  | [d1, d2, d3] => { results := [.lit (.bool false)], args := [d1, d2, d3] }
  | _ => none }
def PlanWholeWrongFalsely : Prop := planWholeRow.holds Try.pinned (OpenSpec.ofChange planWholeWrong)

/-- 'larderlaw17.PlanPoints': WHATEVER THE INPUT: true; the input reads as it did. -/
def planPointsSpec : ChangeSpec := { name := "planPoints", fn := fun _ => fun
  | [d] => { results := [.lit (.bool true)], args := [d] }
  | _ => none }
def planPointsRow : OpenClaim := { program := "ytoopoecopahcbaa", sum := "c6f1a33ff56ec20201e232f998c873c9bc3bddc49999ece8afec967102545b68", func := "larder/larderlaw17.PlanPoints", spec := "planPoints", inPlace := ["math.sqrt", "math.archCeil", "math.archFloor", "math.Float64bits", "math.Float64frombits", "math.archTrunc"], apart := false }
def PlanPointsSaid : Prop := planPointsRow.holds Try.pinned (OpenSpec.ofChange planPointsSpec)

/-- ITS FALSE NEIGHBOUR: 'it returns false'. Refute it at one input. -/
def planPointsWrong : ChangeSpec := { name := "planPoints", fn := fun _ => fun
  | [d] => { results := [.lit (.bool false)], args := [d] }
  | _ => none }
def PlanPointsWrongFalsely : Prop := planPointsRow.holds Try.pinned (OpenSpec.ofChange planPointsWrong)

/-- 'larderlaw17.PlanGrows': WHATEVER THE INPUT: true; the input reads as it did. -/
def planGrowsSpec : ChangeSpec := { name := "planGrows", fn := fun _ => fun
  | [d1, d2, d3, d4, d5] => { results := [.lit (.bool true)], args := [d1, d2, d3, d4, d5] }
  | _ => none }
def planGrowsRow : OpenClaim := { program := "ytoopoecopahcbaa", sum := "c6f1a33ff56ec20201e232f998c873c9bc3bddc49999ece8afec967102545b68", func := "larder/larderlaw17.PlanGrows", spec := "planGrows", inPlace := ["math.sqrt", "math.archCeil", "math.archFloor", "math.Float64bits", "math.Float64frombits", "math.archTrunc"], apart := false }
def PlanGrowsSaid : Prop := planGrowsRow.holds Try.pinned (OpenSpec.ofChange planGrowsSpec)

/-- ITS FALSE NEIGHBOUR: 'it returns false'. Refute it at one input. -/
def planGrowsWrong : ChangeSpec := { name := "planGrows", fn := fun _ => fun
  | [d1, d2, d3, d4, d5] => { results := [.lit (.bool false)], args := [d1, d2, d3, d4, d5] }
  | _ => none }
def PlanGrowsWrongFalsely : Prop := planGrowsRow.holds Try.pinned (OpenSpec.ofChange planGrowsWrong)

/-- 'larderlaw17.PlanFewest': WHATEVER THE INPUT: true; the input reads as it did. -/
def planFewestSpec : ChangeSpec := { name := "planFewest", fn := fun _ => fun
  | [d1, d2, d3] => { results := [.lit (.bool true)], args := [d1, d2, d3] }
  | _ => none }
def planFewestRow : OpenClaim := { program := "ytoopoecopahcbaa", sum := "c6f1a33ff56ec20201e232f998c873c9bc3bddc49999ece8afec967102545b68", func := "larder/larderlaw17.PlanFewest", spec := "planFewest", unfollowed := true, recurses := true, apart := false }
def PlanFewestSaid : Prop := planFewestRow.holds Try.pinned (OpenSpec.ofChange planFewestSpec)

/-- ITS FALSE NEIGHBOUR: 'it returns false'. Refute it at one input. -/
def planFewestWrong : ChangeSpec := { name := "planFewest", fn := fun _ => fun
  | [d1, d2, d3] => { results := [.lit (.bool false)], args := [d1, d2, d3] }
  | _ => none }
def PlanFewestWrongFalsely : Prop := planFewestRow.holds Try.pinned (OpenSpec.ofChange planFewestWrong)

/-- 'larderlaw17.PlanOwn': WHATEVER THE INPUT: true; the input reads as it did. -/
def planOwnSpec : ChangeSpec := { name := "planOwn", fn := fun _ => fun
  | [d1, d2, d3, d4] => { results := [.lit (.bool true)], args := [d1, d2, d3, d4] }
  | _ => none }
def planOwnRow : OpenClaim := { program := "ytoopoecopahcbaa", sum := "c6f1a33ff56ec20201e232f998c873c9bc3bddc49999ece8afec967102545b68", func := "larder/larderlaw17.PlanOwn", spec := "planOwn", unfollowed := true, recurses := true, apart := false }
def PlanOwnSaid : Prop := planOwnRow.holds Try.pinned (OpenSpec.ofChange planOwnSpec)

/-- ITS FALSE NEIGHBOUR: 'it returns false'. Refute it at one input. -/
def planOwnWrong : ChangeSpec := { name := "planOwn", fn := fun _ => fun
  | [d1, d2, d3, d4] => { results := [.lit (.bool false)], args := [d1, d2, d3, d4] }
  | _ => none }
def PlanOwnWrongFalsely : Prop := planOwnRow.holds Try.pinned (OpenSpec.ofChange planOwnWrong)

/- THE SECOND FORM. 'bulk': how many values and letters a reading holds, each counted each time it is reached (what is shared counts as often as it is met; a slice's spare places count too). A statement '..UptoSaid' is the law's where the arguments, and the package variables that the reading takes, are together of bulk at most 1048576: NARROWER than '..Said'. Prove '..Said' where nothing that the law and all that it calls make is longer than what came in: it says more and counts as full. Else prove '..UptoSaid'. A law counts once. -/
mutual
def uptoBulk {H : Type} : DataW H → Nat
  | .lit (.string bytes) => bytes.length + 1
  | .lit _ => 1
  | .nil => 1
  | .ptr d => uptoBulk d + 1
  | .slice elems spare => uptoBulkAll elems + uptoBulkAll spare + 1
  | .agg parts => uptoBulkAll parts + 1
  | .iface _ d => uptoBulk d + 1
  | .map entries => uptoBulkEntries entries + 1
  | .held _ => 1
def uptoBulkAll {H : Type} : List (DataW H) → Nat
  | [] => 0
  | d :: r => uptoBulk d + uptoBulkAll r
def uptoBulkEntries {H : Type} : List (Lit × DataW H) → Nat
  | [] => 0
  | x :: r => uptoBulkEntry x + uptoBulkEntries r
def uptoBulkEntry {H : Type} : Lit × DataW H → Nat
  | (.string bytes, d) => bytes.length + uptoBulk d + 1
  | (_, d) => uptoBulk d + 1
 end
def uptoSmall : (H : Type) → List (DataW H) → Bool := fun _ ds => decide (uptoBulkAll ds ≤ 1048576)
def OpenSpec.upto (s : _root_.Go.ChangeSpec) : _root_.Go.OpenSpec := { _root_.Go.OpenSpec.ofChange s with cond := some uptoSmall }

/-- 'larderlaw17.PlanRestocks', WHERE WHAT IT READS IS OF BULK AT MOST 1048576: true; the input reads as it did. -/
def planRestocksUptoRow : OpenClaim := { program := "ytoopoecopahcbaa", sum := "c6f1a33ff56ec20201e232f998c873c9bc3bddc49999ece8afec967102545b68", func := "larder/larderlaw17.PlanRestocks", spec := "planRestocks", apart := false, narrowed := true }
def PlanRestocksUptoSaid : Prop := planRestocksUptoRow.holds Try.pinned (OpenSpec.upto planRestocksSpec)

/-- 'larderlaw17.PlanOrders', WHERE WHAT IT READS IS OF BULK AT MOST 1048576: true; the input reads as it did. -/
def planOrdersUptoRow : OpenClaim := { program := "ytoopoecopahcbaa", sum := "c6f1a33ff56ec20201e232f998c873c9bc3bddc49999ece8afec967102545b68", func := "larder/larderlaw17.PlanOrders", spec := "planOrders", apart := false, narrowed := true }
def PlanOrdersUptoSaid : Prop := planOrdersUptoRow.holds Try.pinned (OpenSpec.upto planOrdersSpec)

/-- 'larderlaw17.PlanStrongs', WHERE WHAT IT READS IS OF BULK AT MOST 1048576: true; the input reads as it did. -/
def planStrongsUptoRow : OpenClaim := { program := "ytoopoecopahcbaa", sum := "c6f1a33ff56ec20201e232f998c873c9bc3bddc49999ece8afec967102545b68", func := "larder/larderlaw17.PlanStrongs", spec := "planStrongs", inPlace := ["math.Float64bits", "math.Float64frombits"], apart := false, narrowed := true }
def PlanStrongsUptoSaid : Prop := planStrongsUptoRow.holds Try.pinned (OpenSpec.upto planStrongsSpec)

/-- 'larderlaw17.PlanTrips', WHERE WHAT IT READS IS OF BULK AT MOST 1048576: true; the input reads as it did. -/
def planTripsUptoRow : OpenClaim := { program := "ytoopoecopahcbaa", sum := "c6f1a33ff56ec20201e232f998c873c9bc3bddc49999ece8afec967102545b68", func := "larder/larderlaw17.PlanTrips", spec := "planTrips", unfollowed := true, recurses := true, apart := false, narrowed := true }
def PlanTripsUptoSaid : Prop := planTripsUptoRow.holds Try.pinned (OpenSpec.upto planTripsSpec)

/-- 'larderlaw17.PlanShortest', WHERE WHAT IT READS IS OF BULK AT MOST 1048576: true; the input reads as it did. -/
def planShortestUptoRow : OpenClaim := { program := "ytoopoecopahcbaa", sum := "c6f1a33ff56ec20201e232f998c873c9bc3bddc49999ece8afec967102545b68", func := "larder/larderlaw17.PlanShortest", spec := "planShortest", unfollowed := true, recurses := true, apart := false, narrowed := true }
def PlanShortestUptoSaid : Prop := planShortestUptoRow.holds Try.pinned (OpenSpec.upto planShortestSpec)

/-- 'larderlaw17.PlanReckons', WHERE WHAT IT READS IS OF BULK AT MOST 1048576: true; the input reads as it did. -/
def planReckonsUptoRow : OpenClaim := { program := "ytoopoecopahcbaa", sum := "c6f1a33ff56ec20201e232f998c873c9bc3bddc49999ece8afec967102545b68", func := "larder/larderlaw17.PlanReckons", spec := "planReckons", inPlace := ["math.sqrt"], unfollowed := true, recurses := true, apart := false, narrowed := true }
def PlanReckonsUptoSaid : Prop := planReckonsUptoRow.holds Try.pinned (OpenSpec.upto planReckonsSpec)

/-- 'larderlaw17.PlanWhole', WHERE WHAT IT READS IS OF BULK AT MOST 1048576: true; the input reads as it did. -/
def planWholeUptoRow : OpenClaim := { program := "ytoopoecopahcbaa", sum := "c6f1a33ff56ec20201e232f998c873c9bc3bddc49999ece8afec967102545b68", func := "larder/larderlaw17.PlanWhole", spec := "planWhole", inPlace := ["math.sqrt"], unfollowed := true, recurses := true, apart := false, narrowed := true }
def PlanWholeUptoSaid : Prop := planWholeUptoRow.holds Try.pinned (OpenSpec.upto planWholeSpec)

/-- 'larderlaw17.PlanPoints', WHERE WHAT IT READS IS OF BULK AT MOST 1048576: true; the input reads as it did. -/
def planPointsUptoRow : OpenClaim := { program := "ytoopoecopahcbaa", sum := "c6f1a33ff56ec20201e232f998c873c9bc3bddc49999ece8afec967102545b68", func := "larder/larderlaw17.PlanPoints", spec := "planPoints", inPlace := ["math.sqrt", "math.archCeil", "math.archFloor", "math.Float64bits", "math.Float64frombits", "math.archTrunc"], apart := false, narrowed := true }
def PlanPointsUptoSaid : Prop := planPointsUptoRow.holds Try.pinned (OpenSpec.upto planPointsSpec)

/-- 'larderlaw17.PlanGrows', WHERE WHAT IT READS IS OF BULK AT MOST 1048576: true; the input reads as it did. -/
def planGrowsUptoRow : OpenClaim := { program := "ytoopoecopahcbaa", sum := "c6f1a33ff56ec20201e232f998c873c9bc3bddc49999ece8afec967102545b68", func := "larder/larderlaw17.PlanGrows", spec := "planGrows", inPlace := ["math.sqrt", "math.archCeil", "math.archFloor", "math.Float64bits", "math.Float64frombits", "math.archTrunc"], apart := false, narrowed := true }
def PlanGrowsUptoSaid : Prop := planGrowsUptoRow.holds Try.pinned (OpenSpec.upto planGrowsSpec)

/-- 'larderlaw17.PlanFewest', WHERE WHAT IT READS IS OF BULK AT MOST 1048576: true; the input reads as it did. -/
def planFewestUptoRow : OpenClaim := { program := "ytoopoecopahcbaa", sum := "c6f1a33ff56ec20201e232f998c873c9bc3bddc49999ece8afec967102545b68", func := "larder/larderlaw17.PlanFewest", spec := "planFewest", unfollowed := true, recurses := true, apart := false, narrowed := true }
def PlanFewestUptoSaid : Prop := planFewestUptoRow.holds Try.pinned (OpenSpec.upto planFewestSpec)

/-- 'larderlaw17.PlanOwn', WHERE WHAT IT READS IS OF BULK AT MOST 1048576: true; the input reads as it did. -/
def planOwnUptoRow : OpenClaim := { program := "ytoopoecopahcbaa", sum := "c6f1a33ff56ec20201e232f998c873c9bc3bddc49999ece8afec967102545b68", func := "larder/larderlaw17.PlanOwn", spec := "planOwn", unfollowed := true, recurses := true, apart := false, narrowed := true }
def PlanOwnUptoSaid : Prop := planOwnUptoRow.holds Try.pinned (OpenSpec.upto planOwnSpec)

end Rows
end Go.Proofs.Ytoopoecopahcbaa
