/-
  DERIVED. GIVEN WITH THE SEED: THE CARDS: each row of YtcgdojdiihdkeaaDoorRows.lean that lists a variable, with what it lists TIED to the program's text (the seventh form; the later family's looks); each row that meets fmt, with fmt's text TOLD by the authors' own Lean function (tested against real Go, not proved from fmt's source: count such statements apart). THE CARD IS WHAT COUNTS. Prove the row's statement (the work); the ties are given (YtcgdojdiihdkeaaDoorTie.lean); close each card by the builder's one call (the guide's Derived/Test/ToyasCard.lean, 'card_holds'). Laid BY PROGRAM, IN A SANDBOX (cutbox-door.mjs). By AI agents, Wed Nov 11 2026. No macro, syntax, notation, axiom, sorry.
-/
import Derived.Test.YtcgdojdiihdkeaaDoorRows
import GoSem.ClaimSeven
namespace Go.Proofs.YtcgdojdiihdkeaaDoor
namespace Rows

/-- THE TIED CARD OF 'isthmuslaw01.ShaCuts'. -/
def shaCutsCard : Claim7 := { stood := { row := shaCutsRow, standIns := [], harness := (true, "40f63c5bf52751377f35b3114df96f8c0e5a2da321f298118015c2ef5a4ad292"), looks := true }, kinds := [], alts := [], laidByText := true, laidKinds := [.data], laidTests := true, laidLooks := .later }
def ShaCutsCardSaid : Prop := Claim7.holds Tryd.pinned (.plain (OpenSpec.ofChange shaCutsSpec)) shaCutsCard

/-- THE TIED CARD OF 'isthmuslaw05.WotsBack'. -/
def wotsBackCard : Claim7 := { stood := { row := wotsBackRow, standIns := [], harness := (true, "40f63c5bf52751377f35b3114df96f8c0e5a2da321f298118015c2ef5a4ad292"), looks := true }, kinds := [], alts := [], laidByText := true, laidKinds := [.data], laidTests := true, laidLooks := .later }
def WotsBackCardSaid : Prop := Claim7.holds Tryd.pinned (.plain (OpenSpec.ofChange wotsBackSpec)) wotsBackCard

/-- THE TIED CARD OF 'isthmuslaw05.WotsSteps'. -/
def wotsStepsCard : Claim7 := { stood := { row := wotsStepsRow, standIns := [], harness := (true, "40f63c5bf52751377f35b3114df96f8c0e5a2da321f298118015c2ef5a4ad292"), looks := true }, kinds := [], alts := [], laidByText := true, laidKinds := [.data], laidTests := true, laidLooks := .later }
def WotsStepsCardSaid : Prop := Claim7.holds Tryd.pinned (.plain (OpenSpec.ofChange wotsStepsSpec)) wotsStepsCard

/-- THE TIED CARD OF 'isthmuslaw05.WotsChecks'. -/
def wotsChecksCard : Claim7 := { stood := { row := wotsChecksRow, standIns := [], harness := (true, "40f63c5bf52751377f35b3114df96f8c0e5a2da321f298118015c2ef5a4ad292"), looks := true }, kinds := [], alts := [], laidByText := true, laidKinds := [.data], laidTests := true, laidLooks := .later }
def WotsChecksCardSaid : Prop := Claim7.holds Tryd.pinned (.plain (OpenSpec.ofChange wotsChecksSpec)) wotsChecksCard

/-- THE TIED CARD OF 'isthmuslaw01.ShaProves'. -/
def shaProvesCard : Claim7 := { stood := { row := shaProvesRow, standIns := [], harness := (true, "40f63c5bf52751377f35b3114df96f8c0e5a2da321f298118015c2ef5a4ad292"), looks := true }, kinds := [], alts := [], laidByText := true, laidKinds := [.data], laidTests := true, laidLooks := .later }
def ShaProvesCardSaid : Prop := Claim7.holds Tryd.pinned (.plain (OpenSpec.ofChange shaProvesSpec)) shaProvesCard

/-- THE TIED CARD OF 'isthmuslaw01.ShaDepth'. -/
def shaDepthCard : Claim7 := { stood := { row := shaDepthRow, standIns := [], harness := (true, "40f63c5bf52751377f35b3114df96f8c0e5a2da321f298118015c2ef5a4ad292"), looks := true }, kinds := [], alts := [], laidByText := true, laidKinds := [.data], laidTests := true, laidLooks := .later }
def ShaDepthCardSaid : Prop := Claim7.holds Tryd.pinned (.plain (OpenSpec.ofChange shaDepthSpec)) shaDepthCard

/-- THE TIED CARD OF 'isthmuslaw01.ShaSums'. -/
def shaSumsCard : Claim7 := { stood := { row := shaSumsRow, standIns := [], harness := (true, "40f63c5bf52751377f35b3114df96f8c0e5a2da321f298118015c2ef5a4ad292"), looks := true }, kinds := [], alts := [], laidByText := true, laidKinds := [.handle, .data], laidTests := true, laidLooks := .later }
def ShaSumsCardSaid : Prop := Claim7.holds Tryd.pinned (.plain (OpenSpec.ofChange shaSumsSpec)) shaSumsCard

/-- THE TIED CARD OF 'isthmuslaw05.WotsFrom'. -/
def wotsFromCard : Claim7 := { stood := { row := wotsFromRow, standIns := [], harness := (true, "40f63c5bf52751377f35b3114df96f8c0e5a2da321f298118015c2ef5a4ad292"), looks := true }, kinds := [], alts := [], laidByText := true, laidKinds := [.handle, .data], laidTests := true, laidLooks := .later }
def WotsFromCardSaid : Prop := Claim7.holds Tryd.pinned (.plain (OpenSpec.ofChange wotsFromSpec)) wotsFromCard

/-- THE TIED CARD OF 'isthmuslaw01.ShaTrees'. -/
def shaTreesCard : Claim7 := { stood := { row := shaTreesRow, standIns := [], harness := (true, "40f63c5bf52751377f35b3114df96f8c0e5a2da321f298118015c2ef5a4ad292"), looks := true }, kinds := [], alts := [], laidByText := true, laidKinds := [.handle, .data], laidTests := true, laidLooks := .later }
def ShaTreesCardSaid : Prop := Claim7.holds Tryd.pinned (.plain (OpenSpec.ofChange shaTreesSpec)) shaTreesCard

/-- THE TIED CARD OF 'isthmuslaw05.WotsSigns'. -/
def wotsSignsCard : Claim7 := { stood := { row := wotsSignsRow, standIns := [], harness := (true, "40f63c5bf52751377f35b3114df96f8c0e5a2da321f298118015c2ef5a4ad292"), looks := true }, kinds := [], alts := [], laidByText := true, laidKinds := [.handle, .data], laidTests := true, laidLooks := .later }
def WotsSignsCardSaid : Prop := Claim7.holds Tryd.pinned (.plain (OpenSpec.ofChange wotsSignsSpec)) wotsSignsCard

/-- THE SECOND FORM's CARD OF 'isthmuslaw01.ShaCuts'. -/
def shaCutsUptoCard : Claim7 := { stood := { row := shaCutsUptoRow, standIns := [], harness := (true, "40f63c5bf52751377f35b3114df96f8c0e5a2da321f298118015c2ef5a4ad292"), looks := true }, kinds := [], alts := [], laidByText := true, laidKinds := [.data], laidTests := true, laidLooks := .later }
def ShaCutsUptoCardSaid : Prop := Claim7.holds Tryd.pinned (.plain (OpenSpec.upto shaCutsSpec)) shaCutsUptoCard

/-- THE SECOND FORM's CARD OF 'isthmuslaw05.WotsBack'. -/
def wotsBackUptoCard : Claim7 := { stood := { row := wotsBackUptoRow, standIns := [], harness := (true, "40f63c5bf52751377f35b3114df96f8c0e5a2da321f298118015c2ef5a4ad292"), looks := true }, kinds := [], alts := [], laidByText := true, laidKinds := [.data], laidTests := true, laidLooks := .later }
def WotsBackUptoCardSaid : Prop := Claim7.holds Tryd.pinned (.plain (OpenSpec.upto wotsBackSpec)) wotsBackUptoCard

/-- THE SECOND FORM's CARD OF 'isthmuslaw05.WotsSteps'. -/
def wotsStepsUptoCard : Claim7 := { stood := { row := wotsStepsUptoRow, standIns := [], harness := (true, "40f63c5bf52751377f35b3114df96f8c0e5a2da321f298118015c2ef5a4ad292"), looks := true }, kinds := [], alts := [], laidByText := true, laidKinds := [.data], laidTests := true, laidLooks := .later }
def WotsStepsUptoCardSaid : Prop := Claim7.holds Tryd.pinned (.plain (OpenSpec.upto wotsStepsSpec)) wotsStepsUptoCard

/-- THE SECOND FORM's CARD OF 'isthmuslaw05.WotsChecks'. -/
def wotsChecksUptoCard : Claim7 := { stood := { row := wotsChecksUptoRow, standIns := [], harness := (true, "40f63c5bf52751377f35b3114df96f8c0e5a2da321f298118015c2ef5a4ad292"), looks := true }, kinds := [], alts := [], laidByText := true, laidKinds := [.data], laidTests := true, laidLooks := .later }
def WotsChecksUptoCardSaid : Prop := Claim7.holds Tryd.pinned (.plain (OpenSpec.upto wotsChecksSpec)) wotsChecksUptoCard

/-- THE SECOND FORM's CARD OF 'isthmuslaw01.ShaProves'. -/
def shaProvesUptoCard : Claim7 := { stood := { row := shaProvesUptoRow, standIns := [], harness := (true, "40f63c5bf52751377f35b3114df96f8c0e5a2da321f298118015c2ef5a4ad292"), looks := true }, kinds := [], alts := [], laidByText := true, laidKinds := [.data], laidTests := true, laidLooks := .later }
def ShaProvesUptoCardSaid : Prop := Claim7.holds Tryd.pinned (.plain (OpenSpec.upto shaProvesSpec)) shaProvesUptoCard

/-- THE SECOND FORM's CARD OF 'isthmuslaw01.ShaDepth'. -/
def shaDepthUptoCard : Claim7 := { stood := { row := shaDepthUptoRow, standIns := [], harness := (true, "40f63c5bf52751377f35b3114df96f8c0e5a2da321f298118015c2ef5a4ad292"), looks := true }, kinds := [], alts := [], laidByText := true, laidKinds := [.data], laidTests := true, laidLooks := .later }
def ShaDepthUptoCardSaid : Prop := Claim7.holds Tryd.pinned (.plain (OpenSpec.upto shaDepthSpec)) shaDepthUptoCard

/-- THE SECOND FORM's CARD OF 'isthmuslaw01.ShaSums'. -/
def shaSumsUptoCard : Claim7 := { stood := { row := shaSumsUptoRow, standIns := [], harness := (true, "40f63c5bf52751377f35b3114df96f8c0e5a2da321f298118015c2ef5a4ad292"), looks := true }, kinds := [], alts := [], laidByText := true, laidKinds := [.handle, .data], laidTests := true, laidLooks := .later }
def ShaSumsUptoCardSaid : Prop := Claim7.holds Tryd.pinned (.plain (OpenSpec.upto shaSumsSpec)) shaSumsUptoCard

/-- THE SECOND FORM's CARD OF 'isthmuslaw05.WotsFrom'. -/
def wotsFromUptoCard : Claim7 := { stood := { row := wotsFromUptoRow, standIns := [], harness := (true, "40f63c5bf52751377f35b3114df96f8c0e5a2da321f298118015c2ef5a4ad292"), looks := true }, kinds := [], alts := [], laidByText := true, laidKinds := [.handle, .data], laidTests := true, laidLooks := .later }
def WotsFromUptoCardSaid : Prop := Claim7.holds Tryd.pinned (.plain (OpenSpec.upto wotsFromSpec)) wotsFromUptoCard

/-- THE SECOND FORM's CARD OF 'isthmuslaw01.ShaTrees'. -/
def shaTreesUptoCard : Claim7 := { stood := { row := shaTreesUptoRow, standIns := [], harness := (true, "40f63c5bf52751377f35b3114df96f8c0e5a2da321f298118015c2ef5a4ad292"), looks := true }, kinds := [], alts := [], laidByText := true, laidKinds := [.handle, .data], laidTests := true, laidLooks := .later }
def ShaTreesUptoCardSaid : Prop := Claim7.holds Tryd.pinned (.plain (OpenSpec.upto shaTreesSpec)) shaTreesUptoCard

/-- THE SECOND FORM's CARD OF 'isthmuslaw05.WotsSigns'. -/
def wotsSignsUptoCard : Claim7 := { stood := { row := wotsSignsUptoRow, standIns := [], harness := (true, "40f63c5bf52751377f35b3114df96f8c0e5a2da321f298118015c2ef5a4ad292"), looks := true }, kinds := [], alts := [], laidByText := true, laidKinds := [.handle, .data], laidTests := true, laidLooks := .later }
def WotsSignsUptoCardSaid : Prop := Claim7.holds Tryd.pinned (.plain (OpenSpec.upto wotsSignsSpec)) wotsSignsUptoCard
end Rows
end Go.Proofs.YtcgdojdiihdkeaaDoor
