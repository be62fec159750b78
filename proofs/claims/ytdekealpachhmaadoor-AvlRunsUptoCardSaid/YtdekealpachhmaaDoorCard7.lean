/- What all cards of this seat share: the laid variables at a call's beginning, a world for the witness. -/
import Derived.Test.YtdekealpachhmaaDoorCards
import Derived.Test.YtdekealpachhmaaDoorTie
import Derived.Test.YtdekealpachhmaaDoorShaA
import Derived.Test.YtdekealpachhmaaDoorOpenU
import Derived.ShutString
import Derived.ChangeOld
import Derived.LaidHandle
import Derived.LaidLaws
import Derived.Lib.LaidTab
import Derived.Deep.DeepHandedRow
import Derived.Deep.DeepWitnessRowRef
namespace Go.Proofs.YtdekealpachhmaaDoor.card
open Go.ChangeShapes Go.WideShapes Go.ChangeAt Go.RowKit Go.Isth

theorem own : ownKnob Tryd.prog.godebug = none := by kernel_rfl
theorem laidOut : laidOutB Tryd.prog = true := by kernel_rfl
theorem gR : Tryd.prog.globalNamed "isthmus/sha.rounds" = some 1 := by kernel_rfl
theorem tR : (Tryd.prog.globals[(1 : Nat)]?).map (·.type) = some 186 := by kernel_rfl
def kInts : List Int := kTab.map fun v => (v.toNat : Int)
theorem laid_eq {H : Type} : (Rows.laid_isthmus_sha_rounds : DataW H) = Lib.tabData .u32 kInts := rfl
theorem rounds_of {W : World} (h : laidMet Tryd.prog [("isthmus/sha.rounds", Rows.laid_isthmus_sha_rounds)] W) : TabLaid W := by
  rw [laid_eq] at h
  have hT := Lib.tabIs_of_head gR tR Tryd.underlying186 Tryd.underlying163 (by kernel_rfl) (by kernel_rfl) h
  intro j v hj
  have hl : j < kInts.length := by unfold kInts; rw [List.length_map]; exact (List.getElem?_eq_some_iff.1 hj).1
  rw [hT.cell gR j hl]
  unfold kInts
  rw [List.getD_eq_getElem?_getD, List.getElem?_map, hj]
  rfl
theorem et : Tryd.prog.globalNamed "errors.errorType" = some 0 := by kernel_rfl
theorem rt : (Tryd.prog.cutTypes.find? (·.1 == "internal/reflectlite.rtype")).map (·.2) = some 194 := by kernel_rfl
theorem oneRow : ((List.range (334 - 100)).filter fun t => Tryd.prog.rowNamed t [101, 114, 114, 111, 114]) = [34] := by kernel_rfl
theorem size : Tryd.prog.types.size = 334 - 100 := by kernel_rfl
/-- The cell of errors.errorType. -/
def TypeCell (W : World) : Prop := W.cell? ⟨0, 0, none⟩ = some (.iface 194 (.agg #[.pointer (some ⟨2, 34, none⟩)]))
theorem type_of {W : World} (h' : handlesMet Tryd.prog [("errors.errorType", Rows.laid_errors_errorType)] W) : TypeCell W := by
  obtain ⟨name, u, ty, e1, e2, e3, e4, e5⟩ := h' _ (List.mem_singleton.2 rfl)
  have en : name = [101, 114, 114, 111, 114] := (Option.some.inj e1).symm
  subst en
  obtain rfl := Option.some.inj (rt.symm.trans e2)
  have hm : ty ∈ (List.range (334 - 100)).filter fun t => Tryd.prog.rowNamed t [101, 114, 114, 111, 114] := List.mem_filter.2 ⟨List.mem_range.2 (by rw [← size]; exact e3), e4⟩
  rw [oneRow] at hm
  obtain rfl := List.mem_singleton.1 hm
  have hh : typeHandle Tryd.prog 34 = .pointer (some ⟨2, 34, none⟩) := by kernel_rfl
  rw [hh] at e5
  show W.cell? _ = _
  simpa using World.var?_cell et e5 0
/-- A world for the witness. -/
noncomputable def laidWorld (os : Os) : World :=
  let w0 := World.holding Tryd.prog os ⟨#[], #[], []⟩
  { w0 with heap := (w0.heap.modify 1 fun
      | .cells _ t frozen => .cells (kTab.map U).toArray t frozen
      | o => o).modify 0 fun
      | .cells _ t frozen => .cells #[.iface 194 (.agg #[.pointer (some ⟨2, 34, none⟩)])] t frozen
      | o => o }
theorem rounds_met (os : Os) (wit : Array Value) : laidMet Tryd.prog [("isthmus/sha.rounds", Rows.laid_isthmus_sha_rounds)] ((laidWorld os).forCall (fun _ _ => 0) ⟨#[], wit, []⟩).memory :=
  laidMet_of_run' 5 (by kernel_rfl) (by kernel_rfl)

end Go.Proofs.YtdekealpachhmaaDoor.card
