/-
  DERIVED. GIVEN WITH THE SEED: THE CARDS: each row of YtcejkpjinmolhaaDoorRows.lean that lists a variable, with what it lists TIED to the program's text (the seventh form; the later family's looks); each row that meets fmt, with fmt's text TOLD by the authors' own Lean function (tested against real Go, not proved from fmt's source: count such statements apart). THE CARD IS WHAT COUNTS. Prove the row's statement (the work); the ties are given (YtcejkpjinmolhaaDoorTie.lean); close each card by the builder's one call (the guide's Derived/Test/ToyasCard.lean, 'card_holds'). Laid BY PROGRAM, IN A SANDBOX (cutbox-door.mjs). By AI agents, Wed Nov 11 2026. No macro, syntax, notation, axiom, sorry.
-/
import Derived.Test.YtcejkpjinmolhaaDoorRows
import GoSem.ClaimSeven
namespace Go.Proofs.YtcejkpjinmolhaaDoor
namespace Rows

/-- THE TIED CARD OF 'larderlaw08.LockStripes'. -/
def lockStripesCard : Claim7 := { stood := { row := lockStripesRow, standIns := [], harness := (true, "c31ca99a9daf736f691813887f54a3c87c5c9f6016de413a186d09824f71f046"), looks := false }, kinds := [], alts := [], laidByText := true, laidKinds := [.data], laidTests := true, laidLooks := .later }
def LockStripesCardSaid : Prop := Claim7.holds Tryd.pinned (.plain (OpenSpec.ofChange lockStripesSpec)) lockStripesCard

/-- THE TIED CARD OF 'larderlaw08.LockSets'. -/
def lockSetsCard : Claim7 := { stood := { row := lockSetsRow, standIns := [], harness := (true, "c31ca99a9daf736f691813887f54a3c87c5c9f6016de413a186d09824f71f046"), looks := false }, kinds := [], alts := [], laidByText := true, laidKinds := [.data], laidTests := true, laidLooks := .later }
def LockSetsCardSaid : Prop := Claim7.holds Tryd.pinned (.plain (OpenSpec.ofChange lockSetsSpec)) lockSetsCard

/-- THE TIED CARD OF 'larderlaw08.LockSpread'. -/
def lockSpreadCard : Claim7 := { stood := { row := lockSpreadRow, standIns := [], harness := (true, "c31ca99a9daf736f691813887f54a3c87c5c9f6016de413a186d09824f71f046"), looks := false }, kinds := [], alts := [], laidByText := true, laidKinds := [.data], laidTests := true, laidLooks := .later }
def LockSpreadCardSaid : Prop := Claim7.holds Tryd.pinned (.plain (OpenSpec.ofChange lockSpreadSpec)) lockSpreadCard

/-- THE SECOND FORM's CARD OF 'larderlaw08.LockStripes'. -/
def lockStripesUptoCard : Claim7 := { stood := { row := lockStripesUptoRow, standIns := [], harness := (true, "c31ca99a9daf736f691813887f54a3c87c5c9f6016de413a186d09824f71f046"), looks := false }, kinds := [], alts := [], laidByText := true, laidKinds := [.data], laidTests := true, laidLooks := .later }
def LockStripesUptoCardSaid : Prop := Claim7.holds Tryd.pinned (.plain (OpenSpec.upto lockStripesSpec)) lockStripesUptoCard

/-- THE SECOND FORM's CARD OF 'larderlaw08.LockSets'. -/
def lockSetsUptoCard : Claim7 := { stood := { row := lockSetsUptoRow, standIns := [], harness := (true, "c31ca99a9daf736f691813887f54a3c87c5c9f6016de413a186d09824f71f046"), looks := false }, kinds := [], alts := [], laidByText := true, laidKinds := [.data], laidTests := true, laidLooks := .later }
def LockSetsUptoCardSaid : Prop := Claim7.holds Tryd.pinned (.plain (OpenSpec.upto lockSetsSpec)) lockSetsUptoCard

/-- THE SECOND FORM's CARD OF 'larderlaw08.LockSpread'. -/
def lockSpreadUptoCard : Claim7 := { stood := { row := lockSpreadUptoRow, standIns := [], harness := (true, "c31ca99a9daf736f691813887f54a3c87c5c9f6016de413a186d09824f71f046"), looks := false }, kinds := [], alts := [], laidByText := true, laidKinds := [.data], laidTests := true, laidLooks := .later }
def LockSpreadUptoCardSaid : Prop := Claim7.holds Tryd.pinned (.plain (OpenSpec.upto lockSpreadSpec)) lockSpreadUptoCard
end Rows
end Go.Proofs.YtcejkpjinmolhaaDoor
