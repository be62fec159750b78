/- What all cards of this seat share: the laid variables at a call's beginning, a world for the witness. -/
import Derived.Test.YtcgdojdiihdkeaaDoorCards
import Derived.Test.YtcgdojdiihdkeaaDoorTie
import Derived.Test.YtcgdojdiihdkeaaDoorShaA
import Derived.Test.YtcgdojdiihdkeaaDoorOpen
import Derived.Test.YtcgdojdiihdkeaaDoorOpenH
import Derived.ShutString
import Derived.ChangeOld
import Derived.LaidHandle
import Derived.LaidLaws
import Derived.Lib.LaidTab
import Derived.Deep.DeepHandedRow
import Derived.Deep.DeepWitnessRowRef
namespace Go.Proofs.YtcgdojdiihdkeaaDoor.card
open Go.ChangeShapes Go.WideShapes Go.ChangeAt Go.RowKit Go.Isth

theorem own : ownKnob Tryd.prog.godebug = none := by kernel_rfl
theorem laidOut : laidOutB Tryd.prog = true := by kernel_rfl
theorem gR : Tryd.prog.globalNamed "isthmus/sha.rounds" = some 0 := by kernel_rfl
theorem tR : (Tryd.prog.globals[(0 : Nat)]?).map (·.type) = some 100 := by kernel_rfl
def kInts : List Int := kTab.map fun v => (v.toNat : Int)
theorem laid_eq {H : Type} : (Rows.laid_isthmus_sha_rounds : DataW H) = Lib.tabData .u32 kInts := rfl
theorem rounds_of {W : World} (h : laidMet Tryd.prog [("isthmus/sha.rounds", Rows.laid_isthmus_sha_rounds)] W) : TabLaid W := by
  rw [laid_eq] at h
  have hT := Lib.tabIs_of_head gR tR Tryd.underlying100 Tryd.underlying80 (by kernel_rfl) (by kernel_rfl) h
  intro j v hj
  have hl : j < kInts.length := by unfold kInts; rw [List.length_map]; exact (List.getElem?_eq_some_iff.1 hj).1
  rw [hT.cell gR j hl]
  unfold kInts
  rw [List.getD_eq_getElem?_getD, List.getElem?_map, hj]
  rfl
theorem et : Tryd.prog.globalNamed "errors.errorType" = some 1 := by kernel_rfl
theorem rt : (Tryd.prog.cutTypes.find? (·.1 == "internal/reflectlite.rtype")).map (·.2) = some 145 := by kernel_rfl
theorem oneRow : ((List.range (288 - 100)).filter fun t => Tryd.prog.rowNamed t [101, 114, 114, 111, 114]) = [36] := by kernel_rfl
theorem size : Tryd.prog.types.size = 288 - 100 := by kernel_rfl
/-- The cell of errors.errorType. -/
def TypeCell (W : World) : Prop := W.cell? ⟨1, 0, none⟩ = some (.iface 145 (.agg #[.pointer (some ⟨3, 36, none⟩)]))
theorem type_of {W : World} (h' : handlesMet Tryd.prog [("errors.errorType", Rows.laid_errors_errorType)] W) : TypeCell W := by
  obtain ⟨name, u, ty, e1, e2, e3, e4, e5⟩ := h' _ (List.mem_singleton.2 rfl)
  have en : name = [101, 114, 114, 111, 114] := (Option.some.inj e1).symm
  subst en
  obtain rfl := Option.some.inj (rt.symm.trans e2)
  have hm : ty ∈ (List.range (288 - 100)).filter fun t => Tryd.prog.rowNamed t [101, 114, 114, 111, 114] := List.mem_filter.2 ⟨List.mem_range.2 (by rw [← size]; exact e3), e4⟩
  rw [oneRow] at hm
  obtain rfl := List.mem_singleton.1 hm
  have hh : typeHandle Tryd.prog 36 = .pointer (some ⟨3, 36, none⟩) := by kernel_rfl
  rw [hh] at e5
  show W.cell? _ = _
  simpa using World.var?_cell et e5 0
/-- A world for the witness. -/
noncomputable def laidWorld (os : Os) : World :=
  let w0 := World.holding Tryd.prog os ⟨#[], #[], []⟩
  { w0 with heap := (w0.heap.modify 0 fun
      | .cells _ t frozen => .cells (kTab.map U).toArray t frozen
      | o => o).modify 1 fun
      | .cells _ t frozen => .cells #[.iface 145 (.agg #[.pointer (some ⟨3, 36, none⟩)])] t frozen
      | o => o }
theorem rounds_met (os : Os) (wit : Array Value) : laidMet Tryd.prog [("isthmus/sha.rounds", Rows.laid_isthmus_sha_rounds)] ((laidWorld os).forCall (fun _ _ => 0) ⟨#[], wit, []⟩).memory :=
  laidMet_of_run' 5 (by kernel_rfl) (by kernel_rfl)

theorem o_bytes : Opens Tryd.prog 22 (fun w cs xs => ∃ v, cs = [v] ∧ SliceIs ByteR 1 1 w v xs) :=
  Opens.slice Tryd.underlying22 (by kernel_rfl) (by kernel_rfl) (Opens.byte Tryd.underlying5)
theorem o_hashes : Opens Tryd.prog 52 (fun w cs xs => ∃ v, cs = [v] ∧ SliceIs HashR 32 (Tryd.prog.bytesOf 28) w v xs) :=
  Opens.slice Tryd.underlying52 (by kernel_rfl) rfl (Opens.arrB Tryd.underlying28 Tryd.underlying5 (by kernel_rfl) (by kernel_rfl))
end Go.Proofs.YtcgdojdiihdkeaaDoor.card
