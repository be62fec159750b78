/-
  NARROWER THAN 'FOR EVERY INPUT', by the rows' own cells (each row's printed sentence says how): ProofAll: laid · AvlOrder: laid · AvlPaths: laid · AvlStays: laid · AvlRuns: laid · AvlShapes: laid · ProofMakes: laid · ProofVerifies: laid.
  DERIVED. THE GIVEN ROWS OF THIS SEAT. 8 by the template 'for every input the law returns true; each argument reads behind the call as it read before'; 0 by the template 'total and deterministic' (their statements: YtdekealpachhmaaDoorTotals.lean).
  GIVEN WITH THE SEED: the statements are not yours to turn. If you find one false, say at which input.
  Laid BY PROGRAM, IN A SANDBOX (cutbox-rows.mjs): the forced cells as the released guide's own fill.sh prints them over the translation d225f53e25fc9ce0… (all of the seat's roots in one cut). By AI agents, Wed Nov 11 2026. No macro, syntax, notation, axiom, sorry.
-/
import Derived.Test.YtdekealpachhmaaDoorChecked
import GoSem.Claim
import GoSem.ClaimJoined
import GoSem.ClaimMapViews
import Derived.JoinedTies
import Derived.KernelRfl
namespace Go.Proofs.YtdekealpachhmaaDoor
/- THE CELL 'sum', in the pinned program and in every row, IS THE sha256 OF THE DUMP (.gsa) THAT YtdekealpachhmaaDoorProg.lean LOADS. Nothing in Lean hashes anything: it is a label: what it is worth is what the hold of that sum in a sandbox is worth. -/
noncomputable def Tryd.pinned : Pinned := { name := "ytdekealpachhmaadoor", sum := "d225f53e25fc9ce0a1dfc0631eaa86466f8592f0c55de9f00b9832a0a4f5c1ec", checked := Tryd.checked }
namespace Rows
def none {H : Type} : Left H := { results := [], args := [] }

/- WHAT THE LISTED PACKAGE-LEVEL VARIABLES READ AS WHEN THE CALL BEGINS. Each datum BY PROGRAM (the guide's laid-datum.mjs) off the statement by which the dump's own 'gosem.cut.vars' lays the variable. In a bare row this is a premise. The card (YtdekealpachhmaaDoorCards.lean) ties it to the program's text. -/
def laid_errors_errorType {H : Type} : DataW H := .iface "internal/reflectlite.rtype" (.agg [.ptr (.lit (.string [101, 114, 114, 111, 114]))])
def laid_isthmus_sha_rounds {H : Type} : DataW H := .agg [.lit (.int .u32 1116352408), .lit (.int .u32 1899447441), .lit (.int .u32 3049323471), .lit (.int .u32 3921009573), .lit (.int .u32 961987163), .lit (.int .u32 1508970993), .lit (.int .u32 2453635748), .lit (.int .u32 2870763221), .lit (.int .u32 3624381080), .lit (.int .u32 310598401), .lit (.int .u32 607225278), .lit (.int .u32 1426881987), .lit (.int .u32 1925078388), .lit (.int .u32 2162078206), .lit (.int .u32 2614888103), .lit (.int .u32 3248222580), .lit (.int .u32 3835390401), .lit (.int .u32 4022224774), .lit (.int .u32 264347078), .lit (.int .u32 604807628), .lit (.int .u32 770255983), .lit (.int .u32 1249150122), .lit (.int .u32 1555081692), .lit (.int .u32 1996064986), .lit (.int .u32 2554220882), .lit (.int .u32 2821834349), .lit (.int .u32 2952996808), .lit (.int .u32 3210313671), .lit (.int .u32 3336571891), .lit (.int .u32 3584528711), .lit (.int .u32 113926993), .lit (.int .u32 338241895), .lit (.int .u32 666307205), .lit (.int .u32 773529912), .lit (.int .u32 1294757372), .lit (.int .u32 1396182291), .lit (.int .u32 1695183700), .lit (.int .u32 1986661051), .lit (.int .u32 2177026350), .lit (.int .u32 2456956037), .lit (.int .u32 2730485921), .lit (.int .u32 2820302411), .lit (.int .u32 3259730800), .lit (.int .u32 3345764771), .lit (.int .u32 3516065817), .lit (.int .u32 3600352804), .lit (.int .u32 4094571909), .lit (.int .u32 275423344), .lit (.int .u32 430227734), .lit (.int .u32 506948616), .lit (.int .u32 659060556), .lit (.int .u32 883997877), .lit (.int .u32 958139571), .lit (.int .u32 1322822218), .lit (.int .u32 1537002063), .lit (.int .u32 1747873779), .lit (.int .u32 1955562222), .lit (.int .u32 2024104815), .lit (.int .u32 2227730452), .lit (.int .u32 2361852424), .lit (.int .u32 2428436474), .lit (.int .u32 2756734187), .lit (.int .u32 3204031479), .lit (.int .u32 3329325298)]

/-- 'isthmuslaw08.ProofAll': WHATEVER THE INPUT: true; the input reads as it did. -/
def proofAllSpec : ChangeSpec := { name := "proofAll", fn := fun _ => fun
  | [d] => { results := [.lit (.bool true)], args := [d] }
  | _ => none }
def proofAllRow : OpenClaim := { program := "ytdekealpachhmaadoor", sum := "d225f53e25fc9ce0a1dfc0631eaa86466f8592f0c55de9f00b9832a0a4f5c1ec", func := "isthmus/isthmuslaw08.ProofAll", spec := "proofAll", inPlace := ["internal/reflectlite.ValueOf", "(internal/reflectlite.Value).Type", "(internal/reflectlite.Value).IsNil", "internal/reflectlite.TypeOf", "(internal/reflectlite.Value).Elem", "(internal/reflectlite.Value).Set"], unfollowed := true, recurses := true, named := ["isthmus/sha.rounds", "errors.errorType"], apart := false, laid := [("errors.errorType", laid_errors_errorType), ("isthmus/sha.rounds", laid_isthmus_sha_rounds)] }
def ProofAllSaid : Prop := proofAllRow.holds Tryd.pinned (OpenSpec.ofChange proofAllSpec)

/-- ITS FALSE NEIGHBOUR: 'it returns false'. Refute it at one input. -/
def proofAllWrong : ChangeSpec := { name := "proofAll", fn := fun _ => fun
  | [d] => { results := [.lit (.bool false)], args := [d] }
  | _ => none }
def ProofAllWrongFalsely : Prop := proofAllRow.holds Tryd.pinned (OpenSpec.ofChange proofAllWrong)

/-- 'isthmuslaw07.AvlOrder': WHATEVER THE INPUT: true; the input reads as it did. -/
def avlOrderSpec : ChangeSpec := { name := "avlOrder", fn := fun _ => fun
  | [d1, d2, d3] => { results := [.lit (.bool true)], args := [d1, d2, d3] }
  | _ => none }
def avlOrderRow : OpenClaim := { program := "ytdekealpachhmaadoor", sum := "d225f53e25fc9ce0a1dfc0631eaa86466f8592f0c55de9f00b9832a0a4f5c1ec", func := "isthmus/isthmuslaw07.AvlOrder", spec := "avlOrder", unfollowed := true, recurses := true, named := ["isthmus/sha.rounds"], apart := false, laid := [("isthmus/sha.rounds", laid_isthmus_sha_rounds)] }
def AvlOrderSaid : Prop := avlOrderRow.holds Tryd.pinned (OpenSpec.ofChange avlOrderSpec)

/-- ITS FALSE NEIGHBOUR: 'it returns false'. Refute it at one input. -/
def avlOrderWrong : ChangeSpec := { name := "avlOrder", fn := fun _ => fun
  | [d1, d2, d3] => { results := [.lit (.bool false)], args := [d1, d2, d3] }
  | _ => none }
def AvlOrderWrongFalsely : Prop := avlOrderRow.holds Tryd.pinned (OpenSpec.ofChange avlOrderWrong)

/-- 'isthmuslaw07.AvlPaths': WHATEVER THE INPUT: true; the input reads as it did. -/
def avlPathsSpec : ChangeSpec := { name := "avlPaths", fn := fun _ => fun
  | [d1, d2] => { results := [.lit (.bool true)], args := [d1, d2] }
  | _ => none }
def avlPathsRow : OpenClaim := { program := "ytdekealpachhmaadoor", sum := "d225f53e25fc9ce0a1dfc0631eaa86466f8592f0c55de9f00b9832a0a4f5c1ec", func := "isthmus/isthmuslaw07.AvlPaths", spec := "avlPaths", recurses := true, named := ["isthmus/sha.rounds"], apart := false, laid := [("isthmus/sha.rounds", laid_isthmus_sha_rounds)] }
def AvlPathsSaid : Prop := avlPathsRow.holds Tryd.pinned (OpenSpec.ofChange avlPathsSpec)

/-- ITS FALSE NEIGHBOUR: 'it returns false'. Refute it at one input. -/
def avlPathsWrong : ChangeSpec := { name := "avlPaths", fn := fun _ => fun
  | [d1, d2] => { results := [.lit (.bool false)], args := [d1, d2] }
  | _ => none }
def AvlPathsWrongFalsely : Prop := avlPathsRow.holds Tryd.pinned (OpenSpec.ofChange avlPathsWrong)

/-- 'isthmuslaw07.AvlStays': WHATEVER THE INPUT: true; the input reads as it did. -/
def avlStaysSpec : ChangeSpec := { name := "avlStays", fn := fun _ => fun
  | [d1, d2] => { results := [.lit (.bool true)], args := [d1, d2] }
  | _ => none }
def avlStaysRow : OpenClaim := { program := "ytdekealpachhmaadoor", sum := "d225f53e25fc9ce0a1dfc0631eaa86466f8592f0c55de9f00b9832a0a4f5c1ec", func := "isthmus/isthmuslaw07.AvlStays", spec := "avlStays", unfollowed := true, recurses := true, named := ["isthmus/sha.rounds"], apart := false, laid := [("isthmus/sha.rounds", laid_isthmus_sha_rounds)] }
def AvlStaysSaid : Prop := avlStaysRow.holds Tryd.pinned (OpenSpec.ofChange avlStaysSpec)

/-- ITS FALSE NEIGHBOUR: 'it returns false'. Refute it at one input. -/
def avlStaysWrong : ChangeSpec := { name := "avlStays", fn := fun _ => fun
  | [d1, d2] => { results := [.lit (.bool false)], args := [d1, d2] }
  | _ => none }
def AvlStaysWrongFalsely : Prop := avlStaysRow.holds Tryd.pinned (OpenSpec.ofChange avlStaysWrong)

/-- 'isthmuslaw07.AvlRuns': WHATEVER THE INPUT: true; the input reads as it did. -/
def avlRunsSpec : ChangeSpec := { name := "avlRuns", fn := fun _ => fun
  | [d1, d2] => { results := [.lit (.bool true)], args := [d1, d2] }
  | _ => none }
def avlRunsRow : OpenClaim := { program := "ytdekealpachhmaadoor", sum := "d225f53e25fc9ce0a1dfc0631eaa86466f8592f0c55de9f00b9832a0a4f5c1ec", func := "isthmus/isthmuslaw07.AvlRuns", spec := "avlRuns", inPlace := ["internal/reflectlite.ValueOf", "(internal/reflectlite.Value).Type", "(internal/reflectlite.Value).IsNil", "internal/reflectlite.TypeOf", "(internal/reflectlite.Value).Elem", "(internal/reflectlite.Value).Set"], unfollowed := true, recurses := true, named := ["isthmus/sha.rounds", "errors.errorType"], apart := false, laid := [("errors.errorType", laid_errors_errorType), ("isthmus/sha.rounds", laid_isthmus_sha_rounds)] }
def AvlRunsSaid : Prop := avlRunsRow.holds Tryd.pinned (OpenSpec.ofChange avlRunsSpec)

/-- ITS FALSE NEIGHBOUR: 'it returns false'. Refute it at one input. -/
def avlRunsWrong : ChangeSpec := { name := "avlRuns", fn := fun _ => fun
  | [d1, d2] => { results := [.lit (.bool false)], args := [d1, d2] }
  | _ => none }
def AvlRunsWrongFalsely : Prop := avlRunsRow.holds Tryd.pinned (OpenSpec.ofChange avlRunsWrong)

/-- 'isthmuslaw07.AvlShapes': WHATEVER THE INPUT: true; the input reads as it did. -/
def avlShapesSpec : ChangeSpec := { name := "avlShapes", fn := fun _ => fun
  | [d1, d2, d3] => { results := [.lit (.bool true)], args := [d1, d2, d3] }
  | _ => none }
def avlShapesRow : OpenClaim := { program := "ytdekealpachhmaadoor", sum := "d225f53e25fc9ce0a1dfc0631eaa86466f8592f0c55de9f00b9832a0a4f5c1ec", func := "isthmus/isthmuslaw07.AvlShapes", spec := "avlShapes", inPlace := ["internal/reflectlite.ValueOf", "(internal/reflectlite.Value).Type", "(internal/reflectlite.Value).IsNil", "internal/reflectlite.TypeOf", "(internal/reflectlite.Value).Elem", "(internal/reflectlite.Value).Set"], unfollowed := true, recurses := true, named := ["isthmus/sha.rounds", "errors.errorType"], apart := false, laid := [("errors.errorType", laid_errors_errorType), ("isthmus/sha.rounds", laid_isthmus_sha_rounds)] }
def AvlShapesSaid : Prop := avlShapesRow.holds Tryd.pinned (OpenSpec.ofChange avlShapesSpec)

/-- ITS FALSE NEIGHBOUR: 'it returns false'. Refute it at one input. -/
def avlShapesWrong : ChangeSpec := { name := "avlShapes", fn := fun _ => fun
  | [d1, d2, d3] => { results := [.lit (.bool false)], args := [d1, d2, d3] }
  | _ => none }
def AvlShapesWrongFalsely : Prop := avlShapesRow.holds Tryd.pinned (OpenSpec.ofChange avlShapesWrong)

/-- 'isthmuslaw08.ProofMakes': WHATEVER THE INPUT: true; the input reads as it did. -/
def proofMakesSpec : ChangeSpec := { name := "proofMakes", fn := fun _ => fun
  | [d1, d2] => { results := [.lit (.bool true)], args := [d1, d2] }
  | _ => none }
def proofMakesRow : OpenClaim := { program := "ytdekealpachhmaadoor", sum := "d225f53e25fc9ce0a1dfc0631eaa86466f8592f0c55de9f00b9832a0a4f5c1ec", func := "isthmus/isthmuslaw08.ProofMakes", spec := "proofMakes", inPlace := ["internal/reflectlite.ValueOf", "(internal/reflectlite.Value).Type", "(internal/reflectlite.Value).IsNil", "internal/reflectlite.TypeOf", "(internal/reflectlite.Value).Elem", "(internal/reflectlite.Value).Set"], unfollowed := true, recurses := true, named := ["isthmus/sha.rounds", "errors.errorType"], apart := false, laid := [("errors.errorType", laid_errors_errorType), ("isthmus/sha.rounds", laid_isthmus_sha_rounds)] }
def ProofMakesSaid : Prop := proofMakesRow.holds Tryd.pinned (OpenSpec.ofChange proofMakesSpec)

/-- ITS FALSE NEIGHBOUR: 'it returns false'. Refute it at one input. -/
def proofMakesWrong : ChangeSpec := { name := "proofMakes", fn := fun _ => fun
  | [d1, d2] => { results := [.lit (.bool false)], args := [d1, d2] }
  | _ => none }
def ProofMakesWrongFalsely : Prop := proofMakesRow.holds Tryd.pinned (OpenSpec.ofChange proofMakesWrong)

/-- 'isthmuslaw08.ProofVerifies': WHATEVER THE INPUT: true; the input reads as it did. -/
def proofVerifiesSpec : ChangeSpec := { name := "proofVerifies", fn := fun _ => fun
  | [d1, d2, d3] => { results := [.lit (.bool true)], args := [d1, d2, d3] }
  | _ => none }
def proofVerifiesRow : OpenClaim := { program := "ytdekealpachhmaadoor", sum := "d225f53e25fc9ce0a1dfc0631eaa86466f8592f0c55de9f00b9832a0a4f5c1ec", func := "isthmus/isthmuslaw08.ProofVerifies", spec := "proofVerifies", inPlace := ["internal/reflectlite.ValueOf", "(internal/reflectlite.Value).Type", "(internal/reflectlite.Value).IsNil", "internal/reflectlite.TypeOf", "(internal/reflectlite.Value).Elem", "(internal/reflectlite.Value).Set"], unfollowed := true, recurses := true, named := ["isthmus/sha.rounds", "errors.errorType"], apart := false, laid := [("errors.errorType", laid_errors_errorType), ("isthmus/sha.rounds", laid_isthmus_sha_rounds)] }
def ProofVerifiesSaid : Prop := proofVerifiesRow.holds Tryd.pinned (OpenSpec.ofChange proofVerifiesSpec)

/-- ITS FALSE NEIGHBOUR: 'it returns false'. Refute it at one input. -/
def proofVerifiesWrong : ChangeSpec := { name := "proofVerifies", fn := fun _ => fun
  | [d1, d2, d3] => { results := [.lit (.bool false)], args := [d1, d2, d3] }
  | _ => none }
def ProofVerifiesWrongFalsely : Prop := proofVerifiesRow.holds Tryd.pinned (OpenSpec.ofChange proofVerifiesWrong)

/- THE SECOND FORM. 'bulk': how many values and letters a reading holds, each counted each time it is reached (what is shared counts as often as it is met; a slice's spare places count too). A statement '..UptoSaid' is the law's where the arguments, and the package variables that the reading takes, are together of bulk at most 1048576: NARROWER than '..Said'. Prove '..Said' where nothing that the law and all that it calls make is longer than what came in: it says more and counts as full. Else prove '..UptoSaid'. A law counts once. -/
mutual
def uptoBulk {H : Type} : DataW H → Nat
  | .lit (.string bytes) => bytes.length + 1
  | .lit _ => 1
  | .nil => 1
  | .ptr d => uptoBulk d + 1
  | .slice elems spare => uptoBulkAll elems + uptoBulkAll spare + 1
  | .agg parts => uptoBulkAll parts + 1
  | .iface _ d => uptoBulk d + 1
  | .map entries => uptoBulkEntries entries + 1
  | .held _ => 1
def uptoBulkAll {H : Type} : List (DataW H) → Nat
  | [] => 0
  | d :: r => uptoBulk d + uptoBulkAll r
def uptoBulkEntries {H : Type} : List (Lit × DataW H) → Nat
  | [] => 0
  | x :: r => uptoBulkEntry x + uptoBulkEntries r
def uptoBulkEntry {H : Type} : Lit × DataW H → Nat
  | (.string bytes, d) => bytes.length + uptoBulk d + 1
  | (_, d) => uptoBulk d + 1
 end
def uptoSmall : (H : Type) → List (DataW H) → Bool := fun _ ds => decide (uptoBulkAll ds ≤ 1048576)
def OpenSpec.upto (s : _root_.Go.ChangeSpec) : _root_.Go.OpenSpec := { _root_.Go.OpenSpec.ofChange s with cond := some uptoSmall }

/-- 'isthmuslaw08.ProofAll', WHERE WHAT IT READS IS OF BULK AT MOST 1048576: true; the input reads as it did. -/
def proofAllUptoRow : OpenClaim := { program := "ytdekealpachhmaadoor", sum := "d225f53e25fc9ce0a1dfc0631eaa86466f8592f0c55de9f00b9832a0a4f5c1ec", func := "isthmus/isthmuslaw08.ProofAll", spec := "proofAll", inPlace := ["internal/reflectlite.ValueOf", "(internal/reflectlite.Value).Type", "(internal/reflectlite.Value).IsNil", "internal/reflectlite.TypeOf", "(internal/reflectlite.Value).Elem", "(internal/reflectlite.Value).Set"], unfollowed := true, recurses := true, named := ["isthmus/sha.rounds", "errors.errorType"], apart := false, laid := [("errors.errorType", laid_errors_errorType), ("isthmus/sha.rounds", laid_isthmus_sha_rounds)], narrowed := true }
def ProofAllUptoSaid : Prop := proofAllUptoRow.holds Tryd.pinned (OpenSpec.upto proofAllSpec)

/-- 'isthmuslaw07.AvlOrder', WHERE WHAT IT READS IS OF BULK AT MOST 1048576: true; the input reads as it did. -/
def avlOrderUptoRow : OpenClaim := { program := "ytdekealpachhmaadoor", sum := "d225f53e25fc9ce0a1dfc0631eaa86466f8592f0c55de9f00b9832a0a4f5c1ec", func := "isthmus/isthmuslaw07.AvlOrder", spec := "avlOrder", unfollowed := true, recurses := true, named := ["isthmus/sha.rounds"], apart := false, laid := [("isthmus/sha.rounds", laid_isthmus_sha_rounds)], narrowed := true }
def AvlOrderUptoSaid : Prop := avlOrderUptoRow.holds Tryd.pinned (OpenSpec.upto avlOrderSpec)

/-- 'isthmuslaw07.AvlPaths', WHERE WHAT IT READS IS OF BULK AT MOST 1048576: true; the input reads as it did. -/
def avlPathsUptoRow : OpenClaim := { program := "ytdekealpachhmaadoor", sum := "d225f53e25fc9ce0a1dfc0631eaa86466f8592f0c55de9f00b9832a0a4f5c1ec", func := "isthmus/isthmuslaw07.AvlPaths", spec := "avlPaths", recurses := true, named := ["isthmus/sha.rounds"], apart := false, laid := [("isthmus/sha.rounds", laid_isthmus_sha_rounds)], narrowed := true }
def AvlPathsUptoSaid : Prop := avlPathsUptoRow.holds Tryd.pinned (OpenSpec.upto avlPathsSpec)

/-- 'isthmuslaw07.AvlStays', WHERE WHAT IT READS IS OF BULK AT MOST 1048576: true; the input reads as it did. -/
def avlStaysUptoRow : OpenClaim := { program := "ytdekealpachhmaadoor", sum := "d225f53e25fc9ce0a1dfc0631eaa86466f8592f0c55de9f00b9832a0a4f5c1ec", func := "isthmus/isthmuslaw07.AvlStays", spec := "avlStays", unfollowed := true, recurses := true, named := ["isthmus/sha.rounds"], apart := false, laid := [("isthmus/sha.rounds", laid_isthmus_sha_rounds)], narrowed := true }
def AvlStaysUptoSaid : Prop := avlStaysUptoRow.holds Tryd.pinned (OpenSpec.upto avlStaysSpec)

/-- 'isthmuslaw07.AvlRuns', WHERE WHAT IT READS IS OF BULK AT MOST 1048576: true; the input reads as it did. -/
def avlRunsUptoRow : OpenClaim := { program := "ytdekealpachhmaadoor", sum := "d225f53e25fc9ce0a1dfc0631eaa86466f8592f0c55de9f00b9832a0a4f5c1ec", func := "isthmus/isthmuslaw07.AvlRuns", spec := "avlRuns", inPlace := ["internal/reflectlite.ValueOf", "(internal/reflectlite.Value).Type", "(internal/reflectlite.Value).IsNil", "internal/reflectlite.TypeOf", "(internal/reflectlite.Value).Elem", "(internal/reflectlite.Value).Set"], unfollowed := true, recurses := true, named := ["isthmus/sha.rounds", "errors.errorType"], apart := false, laid := [("errors.errorType", laid_errors_errorType), ("isthmus/sha.rounds", laid_isthmus_sha_rounds)], narrowed := true }
def AvlRunsUptoSaid : Prop := avlRunsUptoRow.holds Tryd.pinned (OpenSpec.upto avlRunsSpec)

/-- 'isthmuslaw07.AvlShapes', WHERE WHAT IT READS IS OF BULK AT MOST 1048576: true; the input reads as it did. -/
def avlShapesUptoRow : OpenClaim := { program := "ytdekealpachhmaadoor", sum := "d225f53e25fc9ce0a1dfc0631eaa86466f8592f0c55de9f00b9832a0a4f5c1ec", func := "isthmus/isthmuslaw07.AvlShapes", spec := "avlShapes", inPlace := ["internal/reflectlite.ValueOf", "(internal/reflectlite.Value).Type", "(internal/reflectlite.Value).IsNil", "internal/reflectlite.TypeOf", "(internal/reflectlite.Value).Elem", "(internal/reflectlite.Value).Set"], unfollowed := true, recurses := true, named := ["isthmus/sha.rounds", "errors.errorType"], apart := false, laid := [("errors.errorType", laid_errors_errorType), ("isthmus/sha.rounds", laid_isthmus_sha_rounds)], narrowed := true }
def AvlShapesUptoSaid : Prop := avlShapesUptoRow.holds Tryd.pinned (OpenSpec.upto avlShapesSpec)

/-- 'isthmuslaw08.ProofMakes', WHERE WHAT IT READS IS OF BULK AT MOST 1048576: true; the input reads as it did. -/
def proofMakesUptoRow : OpenClaim := { program := "ytdekealpachhmaadoor", sum := "d225f53e25fc9ce0a1dfc0631eaa86466f8592f0c55de9f00b9832a0a4f5c1ec", func := "isthmus/isthmuslaw08.ProofMakes", spec := "proofMakes", inPlace := ["internal/reflectlite.ValueOf", "(internal/reflectlite.Value).Type", "(internal/reflectlite.Value).IsNil", "internal/reflectlite.TypeOf", "(internal/reflectlite.Value).Elem", "(internal/reflectlite.Value).Set"], unfollowed := true, recurses := true, named := ["isthmus/sha.rounds", "errors.errorType"], apart := false, laid := [("errors.errorType", laid_errors_errorType), ("isthmus/sha.rounds", laid_isthmus_sha_rounds)], narrowed := true }
def ProofMakesUptoSaid : Prop := proofMakesUptoRow.holds Tryd.pinned (OpenSpec.upto proofMakesSpec)

/-- 'isthmuslaw08.ProofVerifies', WHERE WHAT IT READS IS OF BULK AT MOST 1048576: true; the input reads as it did. -/
def proofVerifiesUptoRow : OpenClaim := { program := "ytdekealpachhmaadoor", sum := "d225f53e25fc9ce0a1dfc0631eaa86466f8592f0c55de9f00b9832a0a4f5c1ec", func := "isthmus/isthmuslaw08.ProofVerifies", spec := "proofVerifies", inPlace := ["internal/reflectlite.ValueOf", "(internal/reflectlite.Value).Type", "(internal/reflectlite.Value).IsNil", "internal/reflectlite.TypeOf", "(internal/reflectlite.Value).Elem", "(internal/reflectlite.Value).Set"], unfollowed := true, recurses := true, named := ["isthmus/sha.rounds", "errors.errorType"], apart := false, laid := [("errors.errorType", laid_errors_errorType), ("isthmus/sha.rounds", laid_isthmus_sha_rounds)], narrowed := true }
def ProofVerifiesUptoSaid : Prop := proofVerifiesUptoRow.holds Tryd.pinned (OpenSpec.upto proofVerifiesSpec)

end Rows
end Go.Proofs.YtdekealpachhmaaDoor
