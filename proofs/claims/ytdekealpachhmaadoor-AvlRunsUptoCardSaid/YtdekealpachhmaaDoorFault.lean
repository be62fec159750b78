/- An error of a number: an api.Fault of an api.Errno. -/
import Derived.Test.YtdekealpachhmaaDoorProg
import Derived.Test.YtdekealpachhmaaDoorMem
namespace Go.Proofs.YtdekealpachhmaaDoor
open Go Go.RowKit Go.Isth

/-- An error of the number k: an api.Fault of an api.Errno. -/
def FaultIs (w : World) (v : Value) (k : Int) : Prop := ∃ b s, v = .iface 147 (.pointer (some ⟨b, 0, none⟩)) ∧ w.heap[b]? = some (.cells #[.string s, .iface 119 (.int .i64 k)] 149 (0, 0))
theorem FaultIs.below {w w' : World} {v : Value} {k : Int} (h : FaultIs w v k) (hb : Below w.heap.size w w') : FaultIs w' v k := by
  obtain ⟨b, s, e, hc⟩ := h
  exact ⟨b, s, e, by rw [hb.block b (Array.getElem?_eq_some_iff.1 hc).1]; exact hc⟩
theorem FaultIs.new (w : World) (s : ByteArray) (k : Int) : FaultIs (w.alloc (.cells #[.string s, .iface 119 (.int .i64 k)] 149)) (.iface 147 (.pointer (some ⟨w.heap.size, 0, none⟩))) k :=
  ⟨_, s, rfl, heap_alloc_new w _⟩
theorem FaultIs.shape {w : World} {v : Value} {k : Int} (h : FaultIs w v k) : ∃ b, v = .iface 147 (.pointer (some ⟨b, 0, none⟩)) := by
  obtain ⟨b, s, e, _⟩ := h; exact ⟨b, e⟩
end Go.Proofs.YtdekealpachhmaaDoor
