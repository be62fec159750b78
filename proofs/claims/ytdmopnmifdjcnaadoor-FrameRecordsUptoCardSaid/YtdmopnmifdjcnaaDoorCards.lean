/-
  DERIVED. GIVEN WITH THE SEED: THE CARDS: each row of YtdmopnmifdjcnaaDoorRows.lean that lists a variable, with what it lists TIED to the program's text (the seventh form; the later family's looks); each row that meets fmt, with fmt's text TOLD by the authors' own Lean function (tested against real Go, not proved from fmt's source: count such statements apart). THE CARD IS WHAT COUNTS. Prove the row's statement (the work); the ties are given (YtdmopnmifdjcnaaDoorTie.lean); close each card by the builder's one call (the guide's Derived/Test/ToyasCard.lean, 'card_holds'). Laid BY PROGRAM, IN A SANDBOX (cutbox-door.mjs). By AI agents, Wed Nov 11 2026. No macro, syntax, notation, axiom, sorry.
-/
import Derived.Test.YtdmopnmifdjcnaaDoorRows
import GoSem.ClaimSeven
namespace Go.Proofs.YtdmopnmifdjcnaaDoor
namespace Rows

/-- THE TIED CARD OF 'isthmuslaw03.FrameRecords'. -/
def frameRecordsCard : Claim7 := { stood := { row := frameRecordsRow, standIns := [], harness := (true, "a77fc3516bc3d7a5cc23c9dca358a4b34b8d4f541d1f0fa41f5b959aade5a33d"), looks := true }, kinds := [], alts := [], laidByText := true, laidKinds := [.handle], laidTests := true, laidLooks := .later }
def FrameRecordsCardSaid : Prop := Claim7.holds Tryd.pinned (.plain (OpenSpec.ofChange frameRecordsSpec)) frameRecordsCard

/-- THE TIED CARD OF 'isthmuslaw03.FrameSpoilt'. -/
def frameSpoiltCard : Claim7 := { stood := { row := frameSpoiltRow, standIns := [], harness := (true, "a77fc3516bc3d7a5cc23c9dca358a4b34b8d4f541d1f0fa41f5b959aade5a33d"), looks := true }, kinds := [], alts := [], laidByText := true, laidKinds := [.handle], laidTests := true, laidLooks := .later }
def FrameSpoiltCardSaid : Prop := Claim7.holds Tryd.pinned (.plain (OpenSpec.ofChange frameSpoiltSpec)) frameSpoiltCard

/-- THE TIED CARD OF 'isthmuslaw02.PackStops'. -/
def packStopsCard : Claim7 := { stood := { row := packStopsRow, standIns := [], harness := (true, "a77fc3516bc3d7a5cc23c9dca358a4b34b8d4f541d1f0fa41f5b959aade5a33d"), looks := true }, kinds := [], alts := [], laidByText := true, laidKinds := [.handle], laidTests := true, laidLooks := .later }
def PackStopsCardSaid : Prop := Claim7.holds Tryd.pinned (.plain (OpenSpec.ofChange packStopsSpec)) packStopsCard

/-- THE TIED CARD OF 'isthmuslaw02.PackBounds'. -/
def packBoundsCard : Claim7 := { stood := { row := packBoundsRow, standIns := [], harness := (true, "a77fc3516bc3d7a5cc23c9dca358a4b34b8d4f541d1f0fa41f5b959aade5a33d"), looks := true }, kinds := [], alts := [], laidByText := true, laidKinds := [.handle], laidTests := true, laidLooks := .later }
def PackBoundsCardSaid : Prop := Claim7.holds Tryd.pinned (.plain (OpenSpec.ofChange packBoundsSpec)) packBoundsCard

/-- THE SECOND FORM's CARD OF 'isthmuslaw03.FrameRecords'. -/
def frameRecordsUptoCard : Claim7 := { stood := { row := frameRecordsUptoRow, standIns := [], harness := (true, "a77fc3516bc3d7a5cc23c9dca358a4b34b8d4f541d1f0fa41f5b959aade5a33d"), looks := true }, kinds := [], alts := [], laidByText := true, laidKinds := [.handle], laidTests := true, laidLooks := .later }
def FrameRecordsUptoCardSaid : Prop := Claim7.holds Tryd.pinned (.plain (OpenSpec.upto frameRecordsSpec)) frameRecordsUptoCard

/-- THE SECOND FORM's CARD OF 'isthmuslaw03.FrameSpoilt'. -/
def frameSpoiltUptoCard : Claim7 := { stood := { row := frameSpoiltUptoRow, standIns := [], harness := (true, "a77fc3516bc3d7a5cc23c9dca358a4b34b8d4f541d1f0fa41f5b959aade5a33d"), looks := true }, kinds := [], alts := [], laidByText := true, laidKinds := [.handle], laidTests := true, laidLooks := .later }
def FrameSpoiltUptoCardSaid : Prop := Claim7.holds Tryd.pinned (.plain (OpenSpec.upto frameSpoiltSpec)) frameSpoiltUptoCard

/-- THE SECOND FORM's CARD OF 'isthmuslaw02.PackStops'. -/
def packStopsUptoCard : Claim7 := { stood := { row := packStopsUptoRow, standIns := [], harness := (true, "a77fc3516bc3d7a5cc23c9dca358a4b34b8d4f541d1f0fa41f5b959aade5a33d"), looks := true }, kinds := [], alts := [], laidByText := true, laidKinds := [.handle], laidTests := true, laidLooks := .later }
def PackStopsUptoCardSaid : Prop := Claim7.holds Tryd.pinned (.plain (OpenSpec.upto packStopsSpec)) packStopsUptoCard

/-- THE SECOND FORM's CARD OF 'isthmuslaw02.PackBounds'. -/
def packBoundsUptoCard : Claim7 := { stood := { row := packBoundsUptoRow, standIns := [], harness := (true, "a77fc3516bc3d7a5cc23c9dca358a4b34b8d4f541d1f0fa41f5b959aade5a33d"), looks := true }, kinds := [], alts := [], laidByText := true, laidKinds := [.handle], laidTests := true, laidLooks := .later }
def PackBoundsUptoCardSaid : Prop := Claim7.holds Tryd.pinned (.plain (OpenSpec.upto packBoundsSpec)) packBoundsUptoCard
end Rows
end Go.Proofs.YtdmopnmifdjcnaaDoor
