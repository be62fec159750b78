/-
  NARROWER THAN 'FOR EVERY INPUT', by the rows' own cells (each row's printed sentence says how): ShaCuts: laid · WotsBack: laid · WotsSteps: laid · WotsChecks: laid · ShaProves: laid · ShaDepth: laid · ShaSums: laid · WotsFrom: laid · ShaTrees: laid · WotsSigns: laid.
  DERIVED. THE GIVEN ROWS OF THIS SEAT. 10 by the template 'for every input the law returns true; each argument reads behind the call as it read before'; 0 by the template 'total and deterministic' (their statements: YtcgdojdiihdkeaaDoorTotals.lean).
  GIVEN WITH THE SEED: the statements are not yours to turn. If you find one false, say at which input.
  Laid BY PROGRAM, IN A SANDBOX (cutbox-rows.mjs): the forced cells as the released guide's own fill.sh prints them over the translation 01c6a2ed64c9d638… (all of the seat's roots in one cut). By AI agents, Wed Nov 11 2026. No macro, syntax, notation, axiom, sorry.
-/
import Derived.Test.YtcgdojdiihdkeaaDoorChecked
import GoSem.Claim
import GoSem.ClaimJoined
import GoSem.ClaimMapViews
import Derived.JoinedTies
import Derived.KernelRfl
namespace Go.Proofs.YtcgdojdiihdkeaaDoor
/- THE CELL 'sum', in the pinned program and in every row, IS THE sha256 OF THE DUMP (.gsa) THAT YtcgdojdiihdkeaaDoorProg.lean LOADS. Nothing in Lean hashes anything: it is a label: what it is worth is what the hold of that sum in a sandbox is worth. -/
noncomputable def Tryd.pinned : Pinned := { name := "ytcgdojdiihdkeaadoor", sum := "01c6a2ed64c9d63810c74e443eb758a80623ae7ce0ad628a03a35b60c54caad6", checked := Tryd.checked }
namespace Rows
def none {H : Type} : Left H := { results := [], args := [] }

/- WHAT THE LISTED PACKAGE-LEVEL VARIABLES READ AS WHEN THE CALL BEGINS. Each datum BY PROGRAM (the guide's laid-datum.mjs) off the statement by which the dump's own 'gosem.cut.vars' lays the variable. In a bare row this is a premise. The card (YtcgdojdiihdkeaaDoorCards.lean) ties it to the program's text. -/
def laid_isthmus_sha_rounds {H : Type} : DataW H := .agg [.lit (.int .u32 1116352408), .lit (.int .u32 1899447441), .lit (.int .u32 3049323471), .lit (.int .u32 3921009573), .lit (.int .u32 961987163), .lit (.int .u32 1508970993), .lit (.int .u32 2453635748), .lit (.int .u32 2870763221), .lit (.int .u32 3624381080), .lit (.int .u32 310598401), .lit (.int .u32 607225278), .lit (.int .u32 1426881987), .lit (.int .u32 1925078388), .lit (.int .u32 2162078206), .lit (.int .u32 2614888103), .lit (.int .u32 3248222580), .lit (.int .u32 3835390401), .lit (.int .u32 4022224774), .lit (.int .u32 264347078), .lit (.int .u32 604807628), .lit (.int .u32 770255983), .lit (.int .u32 1249150122), .lit (.int .u32 1555081692), .lit (.int .u32 1996064986), .lit (.int .u32 2554220882), .lit (.int .u32 2821834349), .lit (.int .u32 2952996808), .lit (.int .u32 3210313671), .lit (.int .u32 3336571891), .lit (.int .u32 3584528711), .lit (.int .u32 113926993), .lit (.int .u32 338241895), .lit (.int .u32 666307205), .lit (.int .u32 773529912), .lit (.int .u32 1294757372), .lit (.int .u32 1396182291), .lit (.int .u32 1695183700), .lit (.int .u32 1986661051), .lit (.int .u32 2177026350), .lit (.int .u32 2456956037), .lit (.int .u32 2730485921), .lit (.int .u32 2820302411), .lit (.int .u32 3259730800), .lit (.int .u32 3345764771), .lit (.int .u32 3516065817), .lit (.int .u32 3600352804), .lit (.int .u32 4094571909), .lit (.int .u32 275423344), .lit (.int .u32 430227734), .lit (.int .u32 506948616), .lit (.int .u32 659060556), .lit (.int .u32 883997877), .lit (.int .u32 958139571), .lit (.int .u32 1322822218), .lit (.int .u32 1537002063), .lit (.int .u32 1747873779), .lit (.int .u32 1955562222), .lit (.int .u32 2024104815), .lit (.int .u32 2227730452), .lit (.int .u32 2361852424), .lit (.int .u32 2428436474), .lit (.int .u32 2756734187), .lit (.int .u32 3204031479), .lit (.int .u32 3329325298)]
def laid_errors_errorType {H : Type} : DataW H := .iface "internal/reflectlite.rtype" (.agg [.ptr (.lit (.string [101, 114, 114, 111, 114]))])

/-- 'isthmuslaw01.ShaCuts': WHATEVER THE INPUT: true; the input reads as it did. -/
def shaCutsSpec : ChangeSpec := { name := "shaCuts", fn := fun _ => fun
  | [d1, d2, d3] => { results := [.lit (.bool true)], args := [d1, d2, d3] }
  | _ => none }
def shaCutsRow : OpenClaim := { program := "ytcgdojdiihdkeaadoor", sum := "01c6a2ed64c9d63810c74e443eb758a80623ae7ce0ad628a03a35b60c54caad6", func := "isthmus/isthmuslaw01.ShaCuts", spec := "shaCuts", inPlace := ["internal/abi.NoEscape"], named := ["isthmus/sha.rounds"], apart := false, laid := [("isthmus/sha.rounds", laid_isthmus_sha_rounds)] }
def ShaCutsSaid : Prop := shaCutsRow.holds Tryd.pinned (OpenSpec.ofChange shaCutsSpec)

/-- ITS FALSE NEIGHBOUR: 'it returns false'. Refute it at one input. -/
def shaCutsWrong : ChangeSpec := { name := "shaCuts", fn := fun _ => fun
  | [d1, d2, d3] => { results := [.lit (.bool false)], args := [d1, d2, d3] }
  | _ => none }
def ShaCutsWrongFalsely : Prop := shaCutsRow.holds Tryd.pinned (OpenSpec.ofChange shaCutsWrong)

/-- 'isthmuslaw05.WotsBack': WHATEVER THE INPUT: true; the input reads as it did. -/
def wotsBackSpec : ChangeSpec := { name := "wotsBack", fn := fun _ => fun
  | [d1, d2] => { results := [.lit (.bool true)], args := [d1, d2] }
  | _ => none }
def wotsBackRow : OpenClaim := { program := "ytcgdojdiihdkeaadoor", sum := "01c6a2ed64c9d63810c74e443eb758a80623ae7ce0ad628a03a35b60c54caad6", func := "isthmus/isthmuslaw05.WotsBack", spec := "wotsBack", named := ["isthmus/sha.rounds"], apart := false, laid := [("isthmus/sha.rounds", laid_isthmus_sha_rounds)] }
def WotsBackSaid : Prop := wotsBackRow.holds Tryd.pinned (OpenSpec.ofChange wotsBackSpec)

/-- ITS FALSE NEIGHBOUR: 'it returns false'. Refute it at one input. -/
def wotsBackWrong : ChangeSpec := { name := "wotsBack", fn := fun _ => fun
  | [d1, d2] => { results := [.lit (.bool false)], args := [d1, d2] }
  | _ => none }
def WotsBackWrongFalsely : Prop := wotsBackRow.holds Tryd.pinned (OpenSpec.ofChange wotsBackWrong)

/-- 'isthmuslaw05.WotsSteps': WHATEVER THE INPUT: true; the input reads as it did. -/
def wotsStepsSpec : ChangeSpec := { name := "wotsSteps", fn := fun _ => fun
  | [d1, d2, d3] => { results := [.lit (.bool true)], args := [d1, d2, d3] }
  | _ => none }
def wotsStepsRow : OpenClaim := { program := "ytcgdojdiihdkeaadoor", sum := "01c6a2ed64c9d63810c74e443eb758a80623ae7ce0ad628a03a35b60c54caad6", func := "isthmus/isthmuslaw05.WotsSteps", spec := "wotsSteps", named := ["isthmus/sha.rounds"], apart := false, laid := [("isthmus/sha.rounds", laid_isthmus_sha_rounds)] }
def WotsStepsSaid : Prop := wotsStepsRow.holds Tryd.pinned (OpenSpec.ofChange wotsStepsSpec)

/-- ITS FALSE NEIGHBOUR: 'it returns false'. Refute it at one input. -/
def wotsStepsWrong : ChangeSpec := { name := "wotsSteps", fn := fun _ => fun
  | [d1, d2, d3] => { results := [.lit (.bool false)], args := [d1, d2, d3] }
  | _ => none }
def WotsStepsWrongFalsely : Prop := wotsStepsRow.holds Tryd.pinned (OpenSpec.ofChange wotsStepsWrong)

/-- 'isthmuslaw05.WotsChecks': WHATEVER THE INPUT: true; the input reads as it did. -/
def wotsChecksSpec : ChangeSpec := { name := "wotsChecks", fn := fun _ => fun
  | [d] => { results := [.lit (.bool true)], args := [d] }
  | _ => none }
def wotsChecksRow : OpenClaim := { program := "ytcgdojdiihdkeaadoor", sum := "01c6a2ed64c9d63810c74e443eb758a80623ae7ce0ad628a03a35b60c54caad6", func := "isthmus/isthmuslaw05.WotsChecks", spec := "wotsChecks", named := ["isthmus/sha.rounds"], apart := false, laid := [("isthmus/sha.rounds", laid_isthmus_sha_rounds)] }
def WotsChecksSaid : Prop := wotsChecksRow.holds Tryd.pinned (OpenSpec.ofChange wotsChecksSpec)

/-- ITS FALSE NEIGHBOUR: 'it returns false'. Refute it at one input. -/
def wotsChecksWrong : ChangeSpec := { name := "wotsChecks", fn := fun _ => fun
  | [d] => { results := [.lit (.bool false)], args := [d] }
  | _ => none }
def WotsChecksWrongFalsely : Prop := wotsChecksRow.holds Tryd.pinned (OpenSpec.ofChange wotsChecksWrong)

/-- 'isthmuslaw01.ShaProves': WHATEVER THE INPUT: true; the input reads as it did. -/
def shaProvesSpec : ChangeSpec := { name := "shaProves", fn := fun _ => fun
  | [d1, d2, d3] => { results := [.lit (.bool true)], args := [d1, d2, d3] }
  | _ => none }
def shaProvesRow : OpenClaim := { program := "ytcgdojdiihdkeaadoor", sum := "01c6a2ed64c9d63810c74e443eb758a80623ae7ce0ad628a03a35b60c54caad6", func := "isthmus/isthmuslaw01.ShaProves", spec := "shaProves", inPlace := ["internal/abi.NoEscape"], recurses := true, named := ["isthmus/sha.rounds"], apart := false, laid := [("isthmus/sha.rounds", laid_isthmus_sha_rounds)] }
def ShaProvesSaid : Prop := shaProvesRow.holds Tryd.pinned (OpenSpec.ofChange shaProvesSpec)

/-- ITS FALSE NEIGHBOUR: 'it returns false'. Refute it at one input. -/
def shaProvesWrong : ChangeSpec := { name := "shaProves", fn := fun _ => fun
  | [d1, d2, d3] => { results := [.lit (.bool false)], args := [d1, d2, d3] }
  | _ => none }
def ShaProvesWrongFalsely : Prop := shaProvesRow.holds Tryd.pinned (OpenSpec.ofChange shaProvesWrong)

/-- 'isthmuslaw01.ShaDepth': WHATEVER THE INPUT: true; the input reads as it did. -/
def shaDepthSpec : ChangeSpec := { name := "shaDepth", fn := fun _ => fun
  | [d] => { results := [.lit (.bool true)], args := [d] }
  | _ => none }
def shaDepthRow : OpenClaim := { program := "ytcgdojdiihdkeaadoor", sum := "01c6a2ed64c9d63810c74e443eb758a80623ae7ce0ad628a03a35b60c54caad6", func := "isthmus/isthmuslaw01.ShaDepth", spec := "shaDepth", inPlace := ["internal/abi.NoEscape"], recurses := true, named := ["isthmus/sha.rounds"], apart := false, laid := [("isthmus/sha.rounds", laid_isthmus_sha_rounds)] }
def ShaDepthSaid : Prop := shaDepthRow.holds Tryd.pinned (OpenSpec.ofChange shaDepthSpec)

/-- ITS FALSE NEIGHBOUR: 'it returns false'. Refute it at one input. -/
def shaDepthWrong : ChangeSpec := { name := "shaDepth", fn := fun _ => fun
  | [d] => { results := [.lit (.bool false)], args := [d] }
  | _ => none }
def ShaDepthWrongFalsely : Prop := shaDepthRow.holds Tryd.pinned (OpenSpec.ofChange shaDepthWrong)

/-- 'isthmuslaw01.ShaSums': WHATEVER THE INPUT: true; the input reads as it did. -/
def shaSumsSpec : ChangeSpec := { name := "shaSums", fn := fun _ => fun
  | [d1, d2, d3] => { results := [.lit (.bool true)], args := [d1, d2, d3] }
  | _ => none }
def shaSumsRow : OpenClaim := { program := "ytcgdojdiihdkeaadoor", sum := "01c6a2ed64c9d63810c74e443eb758a80623ae7ce0ad628a03a35b60c54caad6", func := "isthmus/isthmuslaw01.ShaSums", spec := "shaSums", inPlace := ["internal/bytealg.IndexByteString", "internal/abi.NoEscape", "internal/reflectlite.ValueOf", "(internal/reflectlite.Value).Type", "(internal/reflectlite.Value).IsNil", "internal/reflectlite.TypeOf", "(internal/reflectlite.Value).Elem", "(internal/reflectlite.Value).Set"], unfollowed := true, recurses := true, named := ["isthmus/sha.rounds", "errors.errorType"], apart := false, laid := [("errors.errorType", laid_errors_errorType), ("isthmus/sha.rounds", laid_isthmus_sha_rounds)] }
def ShaSumsSaid : Prop := shaSumsRow.holds Tryd.pinned (OpenSpec.ofChange shaSumsSpec)

/-- ITS FALSE NEIGHBOUR: 'it returns false'. Refute it at one input. -/
def shaSumsWrong : ChangeSpec := { name := "shaSums", fn := fun _ => fun
  | [d1, d2, d3] => { results := [.lit (.bool false)], args := [d1, d2, d3] }
  | _ => none }
def ShaSumsWrongFalsely : Prop := shaSumsRow.holds Tryd.pinned (OpenSpec.ofChange shaSumsWrong)

/-- 'isthmuslaw05.WotsFrom': WHATEVER THE INPUT: true; the input reads as it did. -/
def wotsFromSpec : ChangeSpec := { name := "wotsFrom", fn := fun _ => fun
  | [d1, d2, d3] => { results := [.lit (.bool true)], args := [d1, d2, d3] }
  | _ => none }
def wotsFromRow : OpenClaim := { program := "ytcgdojdiihdkeaadoor", sum := "01c6a2ed64c9d63810c74e443eb758a80623ae7ce0ad628a03a35b60c54caad6", func := "isthmus/isthmuslaw05.WotsFrom", spec := "wotsFrom", inPlace := ["internal/reflectlite.ValueOf", "(internal/reflectlite.Value).Type", "(internal/reflectlite.Value).IsNil", "internal/reflectlite.TypeOf", "(internal/reflectlite.Value).Elem", "(internal/reflectlite.Value).Set"], unfollowed := true, recurses := true, named := ["isthmus/sha.rounds", "errors.errorType"], apart := false, laid := [("errors.errorType", laid_errors_errorType), ("isthmus/sha.rounds", laid_isthmus_sha_rounds)] }
def WotsFromSaid : Prop := wotsFromRow.holds Tryd.pinned (OpenSpec.ofChange wotsFromSpec)

/-- ITS FALSE NEIGHBOUR: 'it returns false'. Refute it at one input. -/
def wotsFromWrong : ChangeSpec := { name := "wotsFrom", fn := fun _ => fun
  | [d1, d2, d3] => { results := [.lit (.bool false)], args := [d1, d2, d3] }
  | _ => none }
def WotsFromWrongFalsely : Prop := wotsFromRow.holds Tryd.pinned (OpenSpec.ofChange wotsFromWrong)

/-- 'isthmuslaw01.ShaTrees': WHATEVER THE INPUT: true; the input reads as it did. -/
def shaTreesSpec : ChangeSpec := { name := "shaTrees", fn := fun _ => fun
  | [d1, d2, d3] => { results := [.lit (.bool true)], args := [d1, d2, d3] }
  | _ => none }
def shaTreesRow : OpenClaim := { program := "ytcgdojdiihdkeaadoor", sum := "01c6a2ed64c9d63810c74e443eb758a80623ae7ce0ad628a03a35b60c54caad6", func := "isthmus/isthmuslaw01.ShaTrees", spec := "shaTrees", inPlace := ["internal/abi.NoEscape", "internal/reflectlite.ValueOf", "(internal/reflectlite.Value).Type", "(internal/reflectlite.Value).IsNil", "internal/reflectlite.TypeOf", "(internal/reflectlite.Value).Elem", "(internal/reflectlite.Value).Set"], unfollowed := true, recurses := true, named := ["isthmus/sha.rounds", "errors.errorType"], apart := false, laid := [("errors.errorType", laid_errors_errorType), ("isthmus/sha.rounds", laid_isthmus_sha_rounds)] }
def ShaTreesSaid : Prop := shaTreesRow.holds Tryd.pinned (OpenSpec.ofChange shaTreesSpec)

/-- ITS FALSE NEIGHBOUR: 'it returns false'. Refute it at one input. -/
def shaTreesWrong : ChangeSpec := { name := "shaTrees", fn := fun _ => fun
  | [d1, d2, d3] => { results := [.lit (.bool false)], args := [d1, d2, d3] }
  | _ => none }
def ShaTreesWrongFalsely : Prop := shaTreesRow.holds Tryd.pinned (OpenSpec.ofChange shaTreesWrong)

/-- 'isthmuslaw05.WotsSigns': WHATEVER THE INPUT: true; the input reads as it did. -/
def wotsSignsSpec : ChangeSpec := { name := "wotsSigns", fn := fun _ => fun
  | [d1, d2, d3] => { results := [.lit (.bool true)], args := [d1, d2, d3] }
  | _ => none }
def wotsSignsRow : OpenClaim := { program := "ytcgdojdiihdkeaadoor", sum := "01c6a2ed64c9d63810c74e443eb758a80623ae7ce0ad628a03a35b60c54caad6", func := "isthmus/isthmuslaw05.WotsSigns", spec := "wotsSigns", inPlace := ["internal/reflectlite.ValueOf", "(internal/reflectlite.Value).Type", "(internal/reflectlite.Value).IsNil", "internal/reflectlite.TypeOf", "(internal/reflectlite.Value).Elem", "(internal/reflectlite.Value).Set"], unfollowed := true, recurses := true, named := ["isthmus/sha.rounds", "errors.errorType"], apart := false, laid := [("errors.errorType", laid_errors_errorType), ("isthmus/sha.rounds", laid_isthmus_sha_rounds)] }
def WotsSignsSaid : Prop := wotsSignsRow.holds Tryd.pinned (OpenSpec.ofChange wotsSignsSpec)

/-- ITS FALSE NEIGHBOUR: 'it returns false'. Refute it at one input. -/
def wotsSignsWrong : ChangeSpec := { name := "wotsSigns", fn := fun _ => fun
  | [d1, d2, d3] => { results := [.lit (.bool false)], args := [d1, d2, d3] }
  | _ => none }
def WotsSignsWrongFalsely : Prop := wotsSignsRow.holds Tryd.pinned (OpenSpec.ofChange wotsSignsWrong)

/- THE SECOND FORM. 'bulk': how many values and letters a reading holds, each counted each time it is reached (what is shared counts as often as it is met; a slice's spare places count too). A statement '..UptoSaid' is the law's where the arguments, and the package variables that the reading takes, are together of bulk at most 1048576: NARROWER than '..Said'. Prove '..Said' where nothing that the law and all that it calls make is longer than what came in: it says more and counts as full. Else prove '..UptoSaid'. A law counts once. -/
mutual
def uptoBulk {H : Type} : DataW H → Nat
  | .lit (.string bytes) => bytes.length + 1
  | .lit _ => 1
  | .nil => 1
  | .ptr d => uptoBulk d + 1
  | .slice elems spare => uptoBulkAll elems + uptoBulkAll spare + 1
  | .agg parts => uptoBulkAll parts + 1
  | .iface _ d => uptoBulk d + 1
  | .map entries => uptoBulkEntries entries + 1
  | .held _ => 1
def uptoBulkAll {H : Type} : List (DataW H) → Nat
  | [] => 0
  | d :: r => uptoBulk d + uptoBulkAll r
def uptoBulkEntries {H : Type} : List (Lit × DataW H) → Nat
  | [] => 0
  | x :: r => uptoBulkEntry x + uptoBulkEntries r
def uptoBulkEntry {H : Type} : Lit × DataW H → Nat
  | (.string bytes, d) => bytes.length + uptoBulk d + 1
  | (_, d) => uptoBulk d + 1
 end
def uptoSmall : (H : Type) → List (DataW H) → Bool := fun _ ds => decide (uptoBulkAll ds ≤ 1048576)
def OpenSpec.upto (s : _root_.Go.ChangeSpec) : _root_.Go.OpenSpec := { _root_.Go.OpenSpec.ofChange s with cond := some uptoSmall }

/-- 'isthmuslaw01.ShaCuts', WHERE WHAT IT READS IS OF BULK AT MOST 1048576: true; the input reads as it did. -/
def shaCutsUptoRow : OpenClaim := { program := "ytcgdojdiihdkeaadoor", sum := "01c6a2ed64c9d63810c74e443eb758a80623ae7ce0ad628a03a35b60c54caad6", func := "isthmus/isthmuslaw01.ShaCuts", spec := "shaCuts", inPlace := ["internal/abi.NoEscape"], named := ["isthmus/sha.rounds"], apart := false, laid := [("isthmus/sha.rounds", laid_isthmus_sha_rounds)], narrowed := true }
def ShaCutsUptoSaid : Prop := shaCutsUptoRow.holds Tryd.pinned (OpenSpec.upto shaCutsSpec)

/-- 'isthmuslaw05.WotsBack', WHERE WHAT IT READS IS OF BULK AT MOST 1048576: true; the input reads as it did. -/
def wotsBackUptoRow : OpenClaim := { program := "ytcgdojdiihdkeaadoor", sum := "01c6a2ed64c9d63810c74e443eb758a80623ae7ce0ad628a03a35b60c54caad6", func := "isthmus/isthmuslaw05.WotsBack", spec := "wotsBack", named := ["isthmus/sha.rounds"], apart := false, laid := [("isthmus/sha.rounds", laid_isthmus_sha_rounds)], narrowed := true }
def WotsBackUptoSaid : Prop := wotsBackUptoRow.holds Tryd.pinned (OpenSpec.upto wotsBackSpec)

/-- 'isthmuslaw05.WotsSteps', WHERE WHAT IT READS IS OF BULK AT MOST 1048576: true; the input reads as it did. -/
def wotsStepsUptoRow : OpenClaim := { program := "ytcgdojdiihdkeaadoor", sum := "01c6a2ed64c9d63810c74e443eb758a80623ae7ce0ad628a03a35b60c54caad6", func := "isthmus/isthmuslaw05.WotsSteps", spec := "wotsSteps", named := ["isthmus/sha.rounds"], apart := false, laid := [("isthmus/sha.rounds", laid_isthmus_sha_rounds)], narrowed := true }
def WotsStepsUptoSaid : Prop := wotsStepsUptoRow.holds Tryd.pinned (OpenSpec.upto wotsStepsSpec)

/-- 'isthmuslaw05.WotsChecks', WHERE WHAT IT READS IS OF BULK AT MOST 1048576: true; the input reads as it did. -/
def wotsChecksUptoRow : OpenClaim := { program := "ytcgdojdiihdkeaadoor", sum := "01c6a2ed64c9d63810c74e443eb758a80623ae7ce0ad628a03a35b60c54caad6", func := "isthmus/isthmuslaw05.WotsChecks", spec := "wotsChecks", named := ["isthmus/sha.rounds"], apart := false, laid := [("isthmus/sha.rounds", laid_isthmus_sha_rounds)], narrowed := true }
def WotsChecksUptoSaid : Prop := wotsChecksUptoRow.holds Tryd.pinned (OpenSpec.upto wotsChecksSpec)

/-- 'isthmuslaw01.ShaProves', WHERE WHAT IT READS IS OF BULK AT MOST 1048576: true; the input reads as it did. -/
def shaProvesUptoRow : OpenClaim := { program := "ytcgdojdiihdkeaadoor", sum := "01c6a2ed64c9d63810c74e443eb758a80623ae7ce0ad628a03a35b60c54caad6", func := "isthmus/isthmuslaw01.ShaProves", spec := "shaProves", inPlace := ["internal/abi.NoEscape"], recurses := true, named := ["isthmus/sha.rounds"], apart := false, laid := [("isthmus/sha.rounds", laid_isthmus_sha_rounds)], narrowed := true }
def ShaProvesUptoSaid : Prop := shaProvesUptoRow.holds Tryd.pinned (OpenSpec.upto shaProvesSpec)

/-- 'isthmuslaw01.ShaDepth', WHERE WHAT IT READS IS OF BULK AT MOST 1048576: true; the input reads as it did. -/
def shaDepthUptoRow : OpenClaim := { program := "ytcgdojdiihdkeaadoor", sum := "01c6a2ed64c9d63810c74e443eb758a80623ae7ce0ad628a03a35b60c54caad6", func := "isthmus/isthmuslaw01.ShaDepth", spec := "shaDepth", inPlace := ["internal/abi.NoEscape"], recurses := true, named := ["isthmus/sha.rounds"], apart := false, laid := [("isthmus/sha.rounds", laid_isthmus_sha_rounds)], narrowed := true }
def ShaDepthUptoSaid : Prop := shaDepthUptoRow.holds Tryd.pinned (OpenSpec.upto shaDepthSpec)

/-- 'isthmuslaw01.ShaSums', WHERE WHAT IT READS IS OF BULK AT MOST 1048576: true; the input reads as it did. -/
def shaSumsUptoRow : OpenClaim := { program := "ytcgdojdiihdkeaadoor", sum := "01c6a2ed64c9d63810c74e443eb758a80623ae7ce0ad628a03a35b60c54caad6", func := "isthmus/isthmuslaw01.ShaSums", spec := "shaSums", inPlace := ["internal/bytealg.IndexByteString", "internal/abi.NoEscape", "internal/reflectlite.ValueOf", "(internal/reflectlite.Value).Type", "(internal/reflectlite.Value).IsNil", "internal/reflectlite.TypeOf", "(internal/reflectlite.Value).Elem", "(internal/reflectlite.Value).Set"], unfollowed := true, recurses := true, named := ["isthmus/sha.rounds", "errors.errorType"], apart := false, laid := [("errors.errorType", laid_errors_errorType), ("isthmus/sha.rounds", laid_isthmus_sha_rounds)], narrowed := true }
def ShaSumsUptoSaid : Prop := shaSumsUptoRow.holds Tryd.pinned (OpenSpec.upto shaSumsSpec)

/-- 'isthmuslaw05.WotsFrom', WHERE WHAT IT READS IS OF BULK AT MOST 1048576: true; the input reads as it did. -/
def wotsFromUptoRow : OpenClaim := { program := "ytcgdojdiihdkeaadoor", sum := "01c6a2ed64c9d63810c74e443eb758a80623ae7ce0ad628a03a35b60c54caad6", func := "isthmus/isthmuslaw05.WotsFrom", spec := "wotsFrom", inPlace := ["internal/reflectlite.ValueOf", "(internal/reflectlite.Value).Type", "(internal/reflectlite.Value).IsNil", "internal/reflectlite.TypeOf", "(internal/reflectlite.Value).Elem", "(internal/reflectlite.Value).Set"], unfollowed := true, recurses := true, named := ["isthmus/sha.rounds", "errors.errorType"], apart := false, laid := [("errors.errorType", laid_errors_errorType), ("isthmus/sha.rounds", laid_isthmus_sha_rounds)], narrowed := true }
def WotsFromUptoSaid : Prop := wotsFromUptoRow.holds Tryd.pinned (OpenSpec.upto wotsFromSpec)

/-- 'isthmuslaw01.ShaTrees', WHERE WHAT IT READS IS OF BULK AT MOST 1048576: true; the input reads as it did. -/
def shaTreesUptoRow : OpenClaim := { program := "ytcgdojdiihdkeaadoor", sum := "01c6a2ed64c9d63810c74e443eb758a80623ae7ce0ad628a03a35b60c54caad6", func := "isthmus/isthmuslaw01.ShaTrees", spec := "shaTrees", inPlace := ["internal/abi.NoEscape", "internal/reflectlite.ValueOf", "(internal/reflectlite.Value).Type", "(internal/reflectlite.Value).IsNil", "internal/reflectlite.TypeOf", "(internal/reflectlite.Value).Elem", "(internal/reflectlite.Value).Set"], unfollowed := true, recurses := true, named := ["isthmus/sha.rounds", "errors.errorType"], apart := false, laid := [("errors.errorType", laid_errors_errorType), ("isthmus/sha.rounds", laid_isthmus_sha_rounds)], narrowed := true }
def ShaTreesUptoSaid : Prop := shaTreesUptoRow.holds Tryd.pinned (OpenSpec.upto shaTreesSpec)

/-- 'isthmuslaw05.WotsSigns', WHERE WHAT IT READS IS OF BULK AT MOST 1048576: true; the input reads as it did. -/
def wotsSignsUptoRow : OpenClaim := { program := "ytcgdojdiihdkeaadoor", sum := "01c6a2ed64c9d63810c74e443eb758a80623ae7ce0ad628a03a35b60c54caad6", func := "isthmus/isthmuslaw05.WotsSigns", spec := "wotsSigns", inPlace := ["internal/reflectlite.ValueOf", "(internal/reflectlite.Value).Type", "(internal/reflectlite.Value).IsNil", "internal/reflectlite.TypeOf", "(internal/reflectlite.Value).Elem", "(internal/reflectlite.Value).Set"], unfollowed := true, recurses := true, named := ["isthmus/sha.rounds", "errors.errorType"], apart := false, laid := [("errors.errorType", laid_errors_errorType), ("isthmus/sha.rounds", laid_isthmus_sha_rounds)], narrowed := true }
def WotsSignsUptoSaid : Prop := wotsSignsUptoRow.holds Tryd.pinned (OpenSpec.upto wotsSignsSpec)

end Rows
end Go.Proofs.YtcgdojdiihdkeaaDoor
