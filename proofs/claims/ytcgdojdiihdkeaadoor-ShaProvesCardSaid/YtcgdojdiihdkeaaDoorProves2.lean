/- ShaProves, whole. -/
import Derived.Test.YtcgdojdiihdkeaaDoorProves
namespace Go.Proofs.YtcgdojdiihdkeaaDoor
open Go Go.RowKit Go.Isth
theorem hashBytes : Tryd.prog.bytesOf 28 = 32 := by kernel_rfl
theorem proves_any (A : Option Addr) (c : Nat) (l : List (List UInt8)) (i k : Int) (w : World) (hc : l.length ≤ c) (hr : Rd w A (cellsH l)) (h32 : All32 l) (hb : l.length ≤ 4611686018427387904) (ht : TabLaid w) :
    Calls Tryd.prog 7 #[.slice A l.length c, .int .i64 i, .int .i64 k] w fun e w' => e = .returned (.bool true) ∧ Below w.heap.size w w' := by
  by_cases h : l.length = 0 ∨ 200 < l.length
  · exact proves_far A c l.length i k w h hb ht
  · obtain ⟨b, o, rfl⟩ := rdH_some hr h32 (by omega)
    exact proves_near b o l.length c l i k w rfl (by omega) (by omega) hc h32 hr ht
#print axioms proves_any
end Go.Proofs.YtcgdojdiihdkeaaDoor
