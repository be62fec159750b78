/- A Thing, opened. -/
import Derived.Test.YtdmopnmifdjcnaaDoorOpenU
import Derived.Test.YtdmopnmifdjcnaaDoorPackT
namespace Go.Proofs.YtdmopnmifdjcnaaDoor
open Go Go.RowKit Go.ChangeAt Go.Isth

structure ThingV where
  k : Int
  n : Int
  xs : List UInt8
  hs : List UInt8
deriving Inhabited

/-- What a Thing's cells are. -/
def ThingR (w : World) (cs : List Value) (t : ThingV) : Prop :=
  ∃ (A : Option Addr) (c : Nat), cs = thingCells t.k t.n (.slice A t.xs.length c) t.hs ∧ t.xs.length ≤ c ∧ Rd w A (t.xs.map B) ∧ t.xs.length ≤ 1048576 ∧ (∀ ad, A = some ad → 0 < t.xs.length → ad.block < w.heap.size) ∧ t.hs.length = 32 ∧
    -9223372036854775808 ≤ t.k ∧ t.k < 9223372036854775808 ∧ -9223372036854775808 ≤ t.n ∧ t.n < 9223372036854775808

theorem i64_wf {n : Int} (h : (Lit.int .i64 n).wf = true) : -9223372036854775808 ≤ n ∧ n < 9223372036854775808 := by
  have : -9223372036854775808 ≤ n ∧ n ≤ 9223372036854775807 := by simpa [Lit.wf, IntKind.min, IntKind.max, IntKind.signed, IntKind.bits] using h
  omega

theorem OpensU.thing : OpensU Tryd.prog 54 ThingR := fun H enc w held fuel cs d pl h hw => by
  obtain ⟨xs, m, _, hx, hl, hxl, hf⟩ := DataW.trod_struct Tryd.underlying54 h
  have c3 : Tryd.prog.cellsOf 3 = 1 := by kernel_rfl
  have c23 : Tryd.prog.cellsOf 22 = 1 := by kernel_rfl
  have c48 : Tryd.prog.cellsOf 52 = 32 := by kernel_rfl
  have c53 : Tryd.prog.cellsOf 54 = 35 := by kernel_rfl
  rw [c53] at hl
  injection hx with hd _
  match xs, hxl with
  | [y0, y1, y2, y3], _ =>
    have f0 : DataW.trod enc Tryd.prog w 0 (fun _ => true) held m 3 ((cs.drop 0).take (Tryd.prog.cellsOf 3)) = some y0 := hf 0 _ rfl
    rw [c3] at f0
    have f1 : DataW.trod enc Tryd.prog w 0 (fun _ => true) held m 3 ((cs.drop 1).take (Tryd.prog.cellsOf 3)) = some y1 := hf 1 _ rfl
    rw [c3] at f1
    have f2 : DataW.trod enc Tryd.prog w 0 (fun _ => true) held m 22 ((cs.drop 2).take (Tryd.prog.cellsOf 22)) = some y2 := hf 2 _ rfl
    rw [c23] at f2
    have f3 : DataW.trod enc Tryd.prog w 0 (fun _ => true) held m 52 ((cs.drop 3).take (Tryd.prog.cellsOf 52)) = some y3 := hf 3 _ rfl
    rw [c48] at f3
    subst hd
    simp only [Rows.uptoBulk, Rows.uptoBulkAll, List.map_cons, List.map_nil] at hw
    obtain ⟨k, e0, w0⟩ := OpensU.int Tryd.underlying3 H enc w held m _ y0.1 y0.2 f0 (by omega)
    obtain ⟨n, e1, w1⟩ := OpensU.int Tryd.underlying3 H enc w held m _ y1.1 y1.2 f1 (by omega)
    obtain ⟨bs, v, e2, hb⟩ := OpensU.slice Tryd.underlying22 (by kernel_rfl) (OpensU.byte Tryd.underlying5) H enc w held m _ y2.1 y2.2 f2 (by omega)
    obtain ⟨hs, e3, hh⟩ := OpensU.array Tryd.underlying52 Tryd.underlying5 (by kernel_rfl) (by kernel_rfl) H enc w held m _ y3.1 y3.2 f3 (by omega)
    obtain ⟨A, c, rfl, hc, hr, hm, hA⟩ := bytes_ofU hb
    have b0 := i64_wf w0
    have b1 := i64_wf w1
    refine ⟨⟨k, n, bs, hs⟩, A, c, ?_, hc, hr, hm, hA, hh, b0.1, b0.2, b1.1, b1.2⟩
    rcases cs with _ | ⟨a, cs⟩
    · simp at hl
    rcases cs with _ | ⟨b, cs⟩
    · simp at hl
    rcases cs with _ | ⟨c', rest⟩
    · simp at hl
    have hrl : rest.length ≤ 32 := by simp only [List.length_cons] at hl; omega
    have e0' : a = .int .i64 k := by simpa using e0
    have e1' : b = .int .i64 n := by simpa using e1
    have e2' : c' = .slice A bs.length c := by simpa using e2
    have e3' : rest = hs.map B := by
      have h3 : ((a :: b :: c' :: rest).drop 3).take 32 = rest := by
        rw [List.drop_succ_cons, List.drop_succ_cons, List.drop_succ_cons, List.drop_zero]
        exact List.take_of_length_le hrl
      rw [← h3]; exact e3
    subst e0' e1' e2' e3'
    rfl
#print axioms OpensU.thing
end Go.Proofs.YtdmopnmifdjcnaaDoor
