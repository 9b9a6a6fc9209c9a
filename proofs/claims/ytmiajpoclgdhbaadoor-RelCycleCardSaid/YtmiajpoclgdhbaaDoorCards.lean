/-
  DERIVED. GIVEN WITH THE SEED: THE CARDS: each row of YtmiajpoclgdhbaaDoorRows.lean that lists a variable, with what it lists TIED to the program's text (the seventh form; the later family's looks); each row that meets fmt, with fmt's text TOLD by the authors' own Lean function (tested against real Go, not proved from fmt's source: count such statements apart). THE CARD IS WHAT COUNTS. Prove the row's statement (the work); the ties are given (YtmiajpoclgdhbaaDoorTie.lean); close each card by the builder's one call (the guide's Derived/Test/ToyasCard.lean, 'card_holds'). Laid BY PROGRAM, IN A SANDBOX (cutbox-door.mjs). By AI agents, Wed Nov 11 2026. No macro, syntax, notation, axiom, sorry.
-/
import Derived.Test.YtmiajpoclgdhbaaDoorRows
import GoSem.ClaimSeven
namespace Go.Proofs.YtmiajpoclgdhbaaDoor
namespace Rows

/-- THE TIED CARD OF 'granulelaw01.RelTotal'. -/
def relTotalCard : Claim7 := { stood := { row := relTotalRow, standIns := [], harness := (true, "17e10e6544437f7faf5ba0cae5869cbbbe73300ac3dae9e71172e204c6a91d03"), looks := false }, kinds := [], alts := [], laidByText := true, laidKinds := [.data], laidTests := true, laidLooks := .later }
def RelTotalCardSaid : Prop := Claim7.holds Tryd.pinned (.plain (OpenSpec.ofChange relTotalSpec)) relTotalCard

/-- THE TIED CARD OF 'granulelaw01.RelOrder'. -/
def relOrderCard : Claim7 := { stood := { row := relOrderRow, standIns := [], harness := (true, "17e10e6544437f7faf5ba0cae5869cbbbe73300ac3dae9e71172e204c6a91d03"), looks := false }, kinds := [], alts := [], laidByText := true, laidKinds := [.data], laidTests := true, laidLooks := .later }
def RelOrderCardSaid : Prop := Claim7.holds Tryd.pinned (.plain (OpenSpec.ofChange relOrderSpec)) relOrderCard

/-- THE TIED CARD OF 'granulelaw01.RelSpreads'. -/
def relSpreadsCard : Claim7 := { stood := { row := relSpreadsRow, standIns := [], harness := (true, "17e10e6544437f7faf5ba0cae5869cbbbe73300ac3dae9e71172e204c6a91d03"), looks := false }, kinds := [], alts := [], laidByText := true, laidKinds := [.data], laidTests := true, laidLooks := .later }
def RelSpreadsCardSaid : Prop := Claim7.holds Tryd.pinned (.plain (OpenSpec.ofChange relSpreadsSpec)) relSpreadsCard

/-- THE TIED CARD OF 'granulelaw01.RelMakes'. -/
def relMakesCard : Claim7 := { stood := { row := relMakesRow, standIns := [], harness := (true, "17e10e6544437f7faf5ba0cae5869cbbbe73300ac3dae9e71172e204c6a91d03"), looks := false }, kinds := [], alts := [], laidByText := true, laidKinds := [.data], laidTests := true, laidLooks := .later }
def RelMakesCardSaid : Prop := Claim7.holds Tryd.pinned (.plain (OpenSpec.ofChange relMakesSpec)) relMakesCard

/-- THE TIED CARD OF 'granulelaw01.RelHas'. -/
def relHasCard : Claim7 := { stood := { row := relHasRow, standIns := [], harness := (true, "17e10e6544437f7faf5ba0cae5869cbbbe73300ac3dae9e71172e204c6a91d03"), looks := false }, kinds := [], alts := [], laidByText := true, laidKinds := [.data], laidTests := true, laidLooks := .later }
def RelHasCardSaid : Prop := Claim7.holds Tryd.pinned (.plain (OpenSpec.ofChange relHasSpec)) relHasCard

/-- THE TIED CARD OF 'granulelaw01.RelClosure'. -/
def relClosureCard : Claim7 := { stood := { row := relClosureRow, standIns := [], harness := (true, "17e10e6544437f7faf5ba0cae5869cbbbe73300ac3dae9e71172e204c6a91d03"), looks := false }, kinds := [], alts := [], laidByText := true, laidKinds := [.data], laidTests := true, laidLooks := .later }
def RelClosureCardSaid : Prop := Claim7.holds Tryd.pinned (.plain (OpenSpec.ofChange relClosureSpec)) relClosureCard

/-- THE TIED CARD OF 'granulelaw01.RelWithin'. -/
def relWithinCard : Claim7 := { stood := { row := relWithinRow, standIns := [], harness := (true, "17e10e6544437f7faf5ba0cae5869cbbbe73300ac3dae9e71172e204c6a91d03"), looks := false }, kinds := [], alts := [], laidByText := true, laidKinds := [.data], laidTests := true, laidLooks := .later }
def RelWithinCardSaid : Prop := Claim7.holds Tryd.pinned (.plain (OpenSpec.ofChange relWithinSpec)) relWithinCard

/-- THE TIED CARD OF 'granulelaw01.RelCycle'. -/
def relCycleCard : Claim7 := { stood := { row := relCycleRow, standIns := [], harness := (true, "17e10e6544437f7faf5ba0cae5869cbbbe73300ac3dae9e71172e204c6a91d03"), looks := false }, kinds := [], alts := [], laidByText := true, laidKinds := [.data], laidTests := true, laidLooks := .later }
def RelCycleCardSaid : Prop := Claim7.holds Tryd.pinned (.plain (OpenSpec.ofChange relCycleSpec)) relCycleCard

/-- THE TIED CARD OF 'granulelaw01.RelThen'. -/
def relThenCard : Claim7 := { stood := { row := relThenRow, standIns := [], harness := (true, "17e10e6544437f7faf5ba0cae5869cbbbe73300ac3dae9e71172e204c6a91d03"), looks := false }, kinds := [], alts := [], laidByText := true, laidKinds := [.data], laidTests := true, laidLooks := .later }
def RelThenCardSaid : Prop := Claim7.holds Tryd.pinned (.plain (OpenSpec.ofChange relThenSpec)) relThenCard

/-- THE TIED CARD OF 'granulelaw01.RelMerges'. -/
def relMergesCard : Claim7 := { stood := { row := relMergesRow, standIns := [], harness := (true, "17e10e6544437f7faf5ba0cae5869cbbbe73300ac3dae9e71172e204c6a91d03"), looks := false }, kinds := [], alts := [], laidByText := true, laidKinds := [.data], laidTests := true, laidLooks := .later }
def RelMergesCardSaid : Prop := Claim7.holds Tryd.pinned (.plain (OpenSpec.ofChange relMergesSpec)) relMergesCard

/-- THE SECOND FORM's CARD OF 'granulelaw01.RelTotal'. -/
def relTotalUptoCard : Claim7 := { stood := { row := relTotalUptoRow, standIns := [], harness := (true, "17e10e6544437f7faf5ba0cae5869cbbbe73300ac3dae9e71172e204c6a91d03"), looks := false }, kinds := [], alts := [], laidByText := true, laidKinds := [.data], laidTests := true, laidLooks := .later }
def RelTotalUptoCardSaid : Prop := Claim7.holds Tryd.pinned (.plain (OpenSpec.upto relTotalSpec)) relTotalUptoCard

/-- THE SECOND FORM's CARD OF 'granulelaw01.RelOrder'. -/
def relOrderUptoCard : Claim7 := { stood := { row := relOrderUptoRow, standIns := [], harness := (true, "17e10e6544437f7faf5ba0cae5869cbbbe73300ac3dae9e71172e204c6a91d03"), looks := false }, kinds := [], alts := [], laidByText := true, laidKinds := [.data], laidTests := true, laidLooks := .later }
def RelOrderUptoCardSaid : Prop := Claim7.holds Tryd.pinned (.plain (OpenSpec.upto relOrderSpec)) relOrderUptoCard

/-- THE SECOND FORM's CARD OF 'granulelaw01.RelSpreads'. -/
def relSpreadsUptoCard : Claim7 := { stood := { row := relSpreadsUptoRow, standIns := [], harness := (true, "17e10e6544437f7faf5ba0cae5869cbbbe73300ac3dae9e71172e204c6a91d03"), looks := false }, kinds := [], alts := [], laidByText := true, laidKinds := [.data], laidTests := true, laidLooks := .later }
def RelSpreadsUptoCardSaid : Prop := Claim7.holds Tryd.pinned (.plain (OpenSpec.upto relSpreadsSpec)) relSpreadsUptoCard

/-- THE SECOND FORM's CARD OF 'granulelaw01.RelMakes'. -/
def relMakesUptoCard : Claim7 := { stood := { row := relMakesUptoRow, standIns := [], harness := (true, "17e10e6544437f7faf5ba0cae5869cbbbe73300ac3dae9e71172e204c6a91d03"), looks := false }, kinds := [], alts := [], laidByText := true, laidKinds := [.data], laidTests := true, laidLooks := .later }
def RelMakesUptoCardSaid : Prop := Claim7.holds Tryd.pinned (.plain (OpenSpec.upto relMakesSpec)) relMakesUptoCard

/-- THE SECOND FORM's CARD OF 'granulelaw01.RelHas'. -/
def relHasUptoCard : Claim7 := { stood := { row := relHasUptoRow, standIns := [], harness := (true, "17e10e6544437f7faf5ba0cae5869cbbbe73300ac3dae9e71172e204c6a91d03"), looks := false }, kinds := [], alts := [], laidByText := true, laidKinds := [.data], laidTests := true, laidLooks := .later }
def RelHasUptoCardSaid : Prop := Claim7.holds Tryd.pinned (.plain (OpenSpec.upto relHasSpec)) relHasUptoCard

/-- THE SECOND FORM's CARD OF 'granulelaw01.RelClosure'. -/
def relClosureUptoCard : Claim7 := { stood := { row := relClosureUptoRow, standIns := [], harness := (true, "17e10e6544437f7faf5ba0cae5869cbbbe73300ac3dae9e71172e204c6a91d03"), looks := false }, kinds := [], alts := [], laidByText := true, laidKinds := [.data], laidTests := true, laidLooks := .later }
def RelClosureUptoCardSaid : Prop := Claim7.holds Tryd.pinned (.plain (OpenSpec.upto relClosureSpec)) relClosureUptoCard

/-- THE SECOND FORM's CARD OF 'granulelaw01.RelWithin'. -/
def relWithinUptoCard : Claim7 := { stood := { row := relWithinUptoRow, standIns := [], harness := (true, "17e10e6544437f7faf5ba0cae5869cbbbe73300ac3dae9e71172e204c6a91d03"), looks := false }, kinds := [], alts := [], laidByText := true, laidKinds := [.data], laidTests := true, laidLooks := .later }
def RelWithinUptoCardSaid : Prop := Claim7.holds Tryd.pinned (.plain (OpenSpec.upto relWithinSpec)) relWithinUptoCard

/-- THE SECOND FORM's CARD OF 'granulelaw01.RelCycle'. -/
def relCycleUptoCard : Claim7 := { stood := { row := relCycleUptoRow, standIns := [], harness := (true, "17e10e6544437f7faf5ba0cae5869cbbbe73300ac3dae9e71172e204c6a91d03"), looks := false }, kinds := [], alts := [], laidByText := true, laidKinds := [.data], laidTests := true, laidLooks := .later }
def RelCycleUptoCardSaid : Prop := Claim7.holds Tryd.pinned (.plain (OpenSpec.upto relCycleSpec)) relCycleUptoCard

/-- THE SECOND FORM's CARD OF 'granulelaw01.RelThen'. -/
def relThenUptoCard : Claim7 := { stood := { row := relThenUptoRow, standIns := [], harness := (true, "17e10e6544437f7faf5ba0cae5869cbbbe73300ac3dae9e71172e204c6a91d03"), looks := false }, kinds := [], alts := [], laidByText := true, laidKinds := [.data], laidTests := true, laidLooks := .later }
def RelThenUptoCardSaid : Prop := Claim7.holds Tryd.pinned (.plain (OpenSpec.upto relThenSpec)) relThenUptoCard

/-- THE SECOND FORM's CARD OF 'granulelaw01.RelMerges'. -/
def relMergesUptoCard : Claim7 := { stood := { row := relMergesUptoRow, standIns := [], harness := (true, "17e10e6544437f7faf5ba0cae5869cbbbe73300ac3dae9e71172e204c6a91d03"), looks := false }, kinds := [], alts := [], laidByText := true, laidKinds := [.data], laidTests := true, laidLooks := .later }
def RelMergesUptoCardSaid : Prop := Claim7.holds Tryd.pinned (.plain (OpenSpec.upto relMergesSpec)) relMergesUptoCard
end Rows
end Go.Proofs.YtmiajpoclgdhbaaDoor
