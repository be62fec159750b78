/- num: an error's number, by errors.As. -/
import Derived.Test.YtdmopnmifdjcnaaDoorAs
import Derived.Test.YtdmopnmifdjcnaaDoorFault
import Derived.RangeFuncBox
namespace Go.Proofs.YtdmopnmifdjcnaaDoor
open Go Go.RowKit Go.Isth Go.Extern.Stop Go.Stop Go.Extern

/-- The variable errors.errorType as it is laid. -/
def TypeLaid (w : World) : Prop := w.cell? ⟨0, 0, none⟩ = some (.iface 108 (.agg #[TH 25]))
theorem TypeLaid.lt {w : World} (h : TypeLaid w) : 0 < w.heap.size := World.block_lt_of_cell? w _ h
theorem TypeLaid.below {w w' : World} (h : TypeLaid w) {B : Nat} (hb : Below B w w') (hB : 0 < B) : TypeLaid w' := (hb.cell (p := ⟨0, 0, none⟩) hB).trans h

theorem as_new (b : Nat) (s : ByteArray) (k : Int) (w : World) (hc : w.heap[b]? = some (.cells #[.string s, .iface 71 (.int .i64 k)] 92 (0, 0))) (hg : TypeLaid w) :
    Calls Tryd.prog 42 #[.iface 90 (.pointer (some ⟨b, 0, none⟩)), .iface 78 (.pointer (some ⟨w.heap.size, 0, none⟩))] (w.alloc (.cells #[.int .i64 0] 71)) fun ev w' => ev = .returned (.bool true) ∧ w'.cell? ⟨w.heap.size, 0, none⟩ = some (.int .i64 k) ∧ Below w.heap.size w w' := by
  have hb1 : Below w.heap.size w (w.alloc (.cells #[.int .i64 0] 71)) := (Below.refl _ _).alloc (Nat.le_refl _) _
  refine (as_fault b s k ⟨w.heap.size, 0, none⟩ (.int .i64 0) (w.alloc (.cells #[.int .i64 0] 71)) ((hb1.block b (Array.getElem?_eq_some_iff.1 hc).1).trans hc) (hg.below hb1 hg.lt) (by simp) (by simp)).mono ?_
  rintro e w2 ⟨rfl, rfl⟩
  have hx : Boxed (w.alloc (.cells #[.int .i64 0] 71)) w.heap.size 71 (.int .i64 0) := Boxed.new _ _ _
  generalize w.alloc (.cells #[.int .i64 0] 71) = w1 at *
  have b1 : Below w1.heap.size w1 (A1 w1 ⟨w.heap.size, 0, none⟩) := (Below.refl _ _).alloc (Nat.le_refl _) _
  have b2 : Below w1.heap.size w1 (A2 w1 ⟨w.heap.size, 0, none⟩) := b1.alloc b1.size _
  have b3 : Below w1.heap.size w1 (A3 w1 ⟨w.heap.size, 0, none⟩) := b2.alloc b2.size _
  have b4 : Below w1.heap.size w1 (A4 w1 ⟨w.heap.size, 0, none⟩ k) := b3.alloc b3.size _
  have hy : Boxed (A4 w1 ⟨w.heap.size, 0, none⟩ k) w.heap.size 71 (.int .i64 0) := (b4.block _ hx.lt).trans hx
  exact ⟨rfl, (hy.set (.int .i64 k)).cell, (hb1.trans (b4.mono hb1.size)).setCell (p := ⟨w.heap.size, 0, none⟩) (Nat.le_refl _) _⟩

theorem num02_nil (w : World) : Calls Tryd.prog 25 #[.nilIface] w fun e w' => e = .returned (.int .i64 0) ∧ Below w.heap.size w w' := by
  go_enter Tryd.func25, Tryd.ntmps25
  go_wp2
  go_ret
  exact ⟨rfl, (Below.refl _ _).alloc (Nat.le_refl _) _⟩

theorem num02_any (v : Value) (k : Int) (w : World) (h : FaultIs w v k) (hg : TypeLaid w) : Calls Tryd.prog 25 #[v] w fun e w' => e = .returned (.int .i64 k) ∧ Below w.heap.size w w' := by
  obtain ⟨b, s, rfl, hc⟩ := h
  have hcall := as_new b s k w hc hg
  clear hc hg
  go_enter Tryd.func25, Tryd.ntmps25
  go_wp2_with fail
  refine hcall.mono ?_
  rintro e w2 ⟨rfl, hcell, hb⟩
  have HB := Lib.hid hb
  clear hcall hb
  go_wp2
  go_ret
  exact ⟨rfl, HB.out⟩

theorem num03_nil (w : World) : Calls Tryd.prog 14 #[.nilIface] w fun e w' => e = .returned (.int .i64 0) ∧ Below w.heap.size w w' := by
  go_enter Tryd.func14, Tryd.ntmps14
  go_wp2
  go_ret
  exact ⟨rfl, (Below.refl _ _).alloc (Nat.le_refl _) _⟩

theorem num03_any (v : Value) (k : Int) (w : World) (h : FaultIs w v k) (hg : TypeLaid w) : Calls Tryd.prog 14 #[v] w fun e w' => e = .returned (.int .i64 k) ∧ Below w.heap.size w w' := by
  obtain ⟨b, s, rfl, hc⟩ := h
  have hcall := as_new b s k w hc hg
  clear hc hg
  go_enter Tryd.func14, Tryd.ntmps14
  go_wp2_with fail
  refine hcall.mono ?_
  rintro e w2 ⟨rfl, hcell, hb⟩
  have HB := Lib.hid hb
  clear hcall hb
  go_wp2
  go_ret
  exact ⟨rfl, HB.out⟩

#print axioms num02_any
end Go.Proofs.YtdmopnmifdjcnaaDoor
