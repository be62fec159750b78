/-
  DERIVED. GIVEN WITH THE SEED: THE CARDS: each row of YtdekealpachhmaaDoorRows.lean that lists a variable, with what it lists TIED to the program's text (the seventh form; the later family's looks); each row that meets fmt, with fmt's text TOLD by the authors' own Lean function (tested against real Go, not proved from fmt's source: count such statements apart). THE CARD IS WHAT COUNTS. Prove the row's statement (the work); the ties are given (YtdekealpachhmaaDoorTie.lean); close each card by the builder's one call (the guide's Derived/Test/ToyasCard.lean, 'card_holds'). Laid BY PROGRAM, IN A SANDBOX (cutbox-door.mjs). By AI agents, Wed Nov 11 2026. No macro, syntax, notation, axiom, sorry.
-/
import Derived.Test.YtdekealpachhmaaDoorRows
import GoSem.ClaimSeven
namespace Go.Proofs.YtdekealpachhmaaDoor
namespace Rows

/-- THE TIED CARD OF 'isthmuslaw08.ProofAll'. -/
def proofAllCard : Claim7 := { stood := { row := proofAllRow, standIns := [], harness := (true, "37ffa4ec953bbfbf3ba5c7500cae86c6ce72d4e7bd90570c61a2b71a2a4c1c46"), looks := true }, kinds := [], alts := [], laidByText := true, laidKinds := [.handle, .data], laidTests := true, laidLooks := .later }
def ProofAllCardSaid : Prop := Claim7.holds Tryd.pinned (.plain (OpenSpec.ofChange proofAllSpec)) proofAllCard

/-- THE TIED CARD OF 'isthmuslaw07.AvlOrder'. -/
def avlOrderCard : Claim7 := { stood := { row := avlOrderRow, standIns := [], harness := (true, "37ffa4ec953bbfbf3ba5c7500cae86c6ce72d4e7bd90570c61a2b71a2a4c1c46"), looks := true }, kinds := [], alts := [], laidByText := true, laidKinds := [.data], laidTests := true, laidLooks := .later }
def AvlOrderCardSaid : Prop := Claim7.holds Tryd.pinned (.plain (OpenSpec.ofChange avlOrderSpec)) avlOrderCard

/-- THE TIED CARD OF 'isthmuslaw07.AvlPaths'. -/
def avlPathsCard : Claim7 := { stood := { row := avlPathsRow, standIns := [], harness := (true, "37ffa4ec953bbfbf3ba5c7500cae86c6ce72d4e7bd90570c61a2b71a2a4c1c46"), looks := true }, kinds := [], alts := [], laidByText := true, laidKinds := [.data], laidTests := true, laidLooks := .later }
def AvlPathsCardSaid : Prop := Claim7.holds Tryd.pinned (.plain (OpenSpec.ofChange avlPathsSpec)) avlPathsCard

/-- THE TIED CARD OF 'isthmuslaw07.AvlStays'. -/
def avlStaysCard : Claim7 := { stood := { row := avlStaysRow, standIns := [], harness := (true, "37ffa4ec953bbfbf3ba5c7500cae86c6ce72d4e7bd90570c61a2b71a2a4c1c46"), looks := true }, kinds := [], alts := [], laidByText := true, laidKinds := [.data], laidTests := true, laidLooks := .later }
def AvlStaysCardSaid : Prop := Claim7.holds Tryd.pinned (.plain (OpenSpec.ofChange avlStaysSpec)) avlStaysCard

/-- THE TIED CARD OF 'isthmuslaw07.AvlRuns'. -/
def avlRunsCard : Claim7 := { stood := { row := avlRunsRow, standIns := [], harness := (true, "37ffa4ec953bbfbf3ba5c7500cae86c6ce72d4e7bd90570c61a2b71a2a4c1c46"), looks := true }, kinds := [], alts := [], laidByText := true, laidKinds := [.handle, .data], laidTests := true, laidLooks := .later }
def AvlRunsCardSaid : Prop := Claim7.holds Tryd.pinned (.plain (OpenSpec.ofChange avlRunsSpec)) avlRunsCard

/-- THE TIED CARD OF 'isthmuslaw07.AvlShapes'. -/
def avlShapesCard : Claim7 := { stood := { row := avlShapesRow, standIns := [], harness := (true, "37ffa4ec953bbfbf3ba5c7500cae86c6ce72d4e7bd90570c61a2b71a2a4c1c46"), looks := true }, kinds := [], alts := [], laidByText := true, laidKinds := [.handle, .data], laidTests := true, laidLooks := .later }
def AvlShapesCardSaid : Prop := Claim7.holds Tryd.pinned (.plain (OpenSpec.ofChange avlShapesSpec)) avlShapesCard

/-- THE TIED CARD OF 'isthmuslaw08.ProofMakes'. -/
def proofMakesCard : Claim7 := { stood := { row := proofMakesRow, standIns := [], harness := (true, "37ffa4ec953bbfbf3ba5c7500cae86c6ce72d4e7bd90570c61a2b71a2a4c1c46"), looks := true }, kinds := [], alts := [], laidByText := true, laidKinds := [.handle, .data], laidTests := true, laidLooks := .later }
def ProofMakesCardSaid : Prop := Claim7.holds Tryd.pinned (.plain (OpenSpec.ofChange proofMakesSpec)) proofMakesCard

/-- THE TIED CARD OF 'isthmuslaw08.ProofVerifies'. -/
def proofVerifiesCard : Claim7 := { stood := { row := proofVerifiesRow, standIns := [], harness := (true, "37ffa4ec953bbfbf3ba5c7500cae86c6ce72d4e7bd90570c61a2b71a2a4c1c46"), looks := true }, kinds := [], alts := [], laidByText := true, laidKinds := [.handle, .data], laidTests := true, laidLooks := .later }
def ProofVerifiesCardSaid : Prop := Claim7.holds Tryd.pinned (.plain (OpenSpec.ofChange proofVerifiesSpec)) proofVerifiesCard

/-- THE SECOND FORM's CARD OF 'isthmuslaw08.ProofAll'. -/
def proofAllUptoCard : Claim7 := { stood := { row := proofAllUptoRow, standIns := [], harness := (true, "37ffa4ec953bbfbf3ba5c7500cae86c6ce72d4e7bd90570c61a2b71a2a4c1c46"), looks := true }, kinds := [], alts := [], laidByText := true, laidKinds := [.handle, .data], laidTests := true, laidLooks := .later }
def ProofAllUptoCardSaid : Prop := Claim7.holds Tryd.pinned (.plain (OpenSpec.upto proofAllSpec)) proofAllUptoCard

/-- THE SECOND FORM's CARD OF 'isthmuslaw07.AvlOrder'. -/
def avlOrderUptoCard : Claim7 := { stood := { row := avlOrderUptoRow, standIns := [], harness := (true, "37ffa4ec953bbfbf3ba5c7500cae86c6ce72d4e7bd90570c61a2b71a2a4c1c46"), looks := true }, kinds := [], alts := [], laidByText := true, laidKinds := [.data], laidTests := true, laidLooks := .later }
def AvlOrderUptoCardSaid : Prop := Claim7.holds Tryd.pinned (.plain (OpenSpec.upto avlOrderSpec)) avlOrderUptoCard

/-- THE SECOND FORM's CARD OF 'isthmuslaw07.AvlPaths'. -/
def avlPathsUptoCard : Claim7 := { stood := { row := avlPathsUptoRow, standIns := [], harness := (true, "37ffa4ec953bbfbf3ba5c7500cae86c6ce72d4e7bd90570c61a2b71a2a4c1c46"), looks := true }, kinds := [], alts := [], laidByText := true, laidKinds := [.data], laidTests := true, laidLooks := .later }
def AvlPathsUptoCardSaid : Prop := Claim7.holds Tryd.pinned (.plain (OpenSpec.upto avlPathsSpec)) avlPathsUptoCard

/-- THE SECOND FORM's CARD OF 'isthmuslaw07.AvlStays'. -/
def avlStaysUptoCard : Claim7 := { stood := { row := avlStaysUptoRow, standIns := [], harness := (true, "37ffa4ec953bbfbf3ba5c7500cae86c6ce72d4e7bd90570c61a2b71a2a4c1c46"), looks := true }, kinds := [], alts := [], laidByText := true, laidKinds := [.data], laidTests := true, laidLooks := .later }
def AvlStaysUptoCardSaid : Prop := Claim7.holds Tryd.pinned (.plain (OpenSpec.upto avlStaysSpec)) avlStaysUptoCard

/-- THE SECOND FORM's CARD OF 'isthmuslaw07.AvlRuns'. -/
def avlRunsUptoCard : Claim7 := { stood := { row := avlRunsUptoRow, standIns := [], harness := (true, "37ffa4ec953bbfbf3ba5c7500cae86c6ce72d4e7bd90570c61a2b71a2a4c1c46"), looks := true }, kinds := [], alts := [], laidByText := true, laidKinds := [.handle, .data], laidTests := true, laidLooks := .later }
def AvlRunsUptoCardSaid : Prop := Claim7.holds Tryd.pinned (.plain (OpenSpec.upto avlRunsSpec)) avlRunsUptoCard

/-- THE SECOND FORM's CARD OF 'isthmuslaw07.AvlShapes'. -/
def avlShapesUptoCard : Claim7 := { stood := { row := avlShapesUptoRow, standIns := [], harness := (true, "37ffa4ec953bbfbf3ba5c7500cae86c6ce72d4e7bd90570c61a2b71a2a4c1c46"), looks := true }, kinds := [], alts := [], laidByText := true, laidKinds := [.handle, .data], laidTests := true, laidLooks := .later }
def AvlShapesUptoCardSaid : Prop := Claim7.holds Tryd.pinned (.plain (OpenSpec.upto avlShapesSpec)) avlShapesUptoCard

/-- THE SECOND FORM's CARD OF 'isthmuslaw08.ProofMakes'. -/
def proofMakesUptoCard : Claim7 := { stood := { row := proofMakesUptoRow, standIns := [], harness := (true, "37ffa4ec953bbfbf3ba5c7500cae86c6ce72d4e7bd90570c61a2b71a2a4c1c46"), looks := true }, kinds := [], alts := [], laidByText := true, laidKinds := [.handle, .data], laidTests := true, laidLooks := .later }
def ProofMakesUptoCardSaid : Prop := Claim7.holds Tryd.pinned (.plain (OpenSpec.upto proofMakesSpec)) proofMakesUptoCard

/-- THE SECOND FORM's CARD OF 'isthmuslaw08.ProofVerifies'. -/
def proofVerifiesUptoCard : Claim7 := { stood := { row := proofVerifiesUptoRow, standIns := [], harness := (true, "37ffa4ec953bbfbf3ba5c7500cae86c6ce72d4e7bd90570c61a2b71a2a4c1c46"), looks := true }, kinds := [], alts := [], laidByText := true, laidKinds := [.handle, .data], laidTests := true, laidLooks := .later }
def ProofVerifiesUptoCardSaid : Prop := Claim7.holds Tryd.pinned (.plain (OpenSpec.upto proofVerifiesSpec)) proofVerifiesUptoCard
end Rows
end Go.Proofs.YtdekealpachhmaaDoor
