/- num of layer 1: an error's number, by errors.As. -/
import Derived.Test.YtcgdojdiihdkeaaDoorNum5
namespace Go.Proofs.YtcgdojdiihdkeaaDoor
open Go Go.RowKit Go.Isth Go.Extern.Stop Go.Stop Go.Extern

theorem num01_nil (w : World) : Calls Tryd.prog 36 #[.nilIface] w fun e w' => e = .returned (.int .i64 0) ∧ Below w.heap.size w w' := by
  go_enter Tryd.func36, Tryd.ntmps36
  go_wp2
  go_ret
  exact ⟨rfl, (Below.refl _ _).alloc (Nat.le_refl _) _⟩
theorem num01_any (v : Value) (k : Int) (w : World) (h : FaultIs w v k) (hg : TypeLaid w) : Calls Tryd.prog 36 #[v] w fun e w' => e = .returned (.int .i64 k) ∧ Below w.heap.size w w' := by
  obtain ⟨b, s, rfl, hc⟩ := h
  have hcall := as_new b s k w hc hg
  clear hc hg
  go_enter Tryd.func36, Tryd.ntmps36
  go_wp2_with fail
  refine hcall.mono ?_
  rintro e w2 ⟨rfl, hcell, hb⟩
  have HB := Lib.hid hb
  clear hcall hb
  go_wp2
  go_ret
  exact ⟨rfl, HB.out⟩
end Go.Proofs.YtcgdojdiihdkeaaDoor
