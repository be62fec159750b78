/- An argument that is a case: opened. -/
import Derived.Test.YtcgdojdiihdkeaaDoorArr
import Derived.Test.YtcgdojdiihdkeaaDoorBack1
namespace Go.Proofs.YtcgdojdiihdkeaaDoor.card
open Go.ChangeShapes Go.WideShapes Go.ChangeAt Go.RowKit Go.Isth

set_option maxRecDepth 100000 in
theorem case_of {H : Type} {enc : TypeId × Value → H} {W : World} {base : Nat} {v : Value} {d : DataW H} {p : List MemPlace} (hv : Value.okWide Tryd.prog W .any base 34 v) (h : DataW.Trod enc Tryd.prog W 0 (fun _ => true) true 34 v d p) (hw : ∀ n ∈ d.weights Tryd.prog 34, n ≤ reachBytes) :
    ∃ (seed : List UInt8) (leaf : Int) (A : Option Addr) (c : Nat) (ds : List UInt8), v = .agg (caseCells seed leaf (.slice A ds.length c)).toArray ∧ seed.length = 32 ∧ ds.length ≤ c ∧ Rd W A (ds.map B) ∧ ds.length ≤ 140737488351232 := by
  have hu := Tryd.underlying34
  simp only [Value.okWide, hu] at hv
  obtain ⟨cs, rfl, _, _⟩ := hv
  obtain ⟨fuel, hf⟩ := h
  obtain ⟨xs, m, _, hx, hl, hxl, he⟩ := DataW.trod_struct hu hf
  have c28 : Tryd.prog.cellsOf 28 = 32 := by kernel_rfl
  have c3 : Tryd.prog.cellsOf 3 = 1 := by kernel_rfl
  have c22 : Tryd.prog.cellsOf 22 = 1 := by kernel_rfl
  have c34 : Tryd.prog.cellsOf 34 = 34 := by kernel_rfl
  rw [c34] at hl
  have hl' : cs.toList.length = 34 := hl
  injection hx with hd _
  match xs, hxl with
  | [y0, y1, y2], _ =>
    have f0 : DataW.trod enc Tryd.prog W 0 (fun _ => true) true m 28 ((cs.toList.drop 0).take (Tryd.prog.cellsOf 28)) = some y0 := he 0 _ rfl
    rw [c28] at f0
    have f1 : DataW.trod enc Tryd.prog W 0 (fun _ => true) true m 3 ((cs.toList.drop 32).take (Tryd.prog.cellsOf 3)) = some y1 := he 1 _ rfl
    rw [c3] at f1
    have f2 : DataW.trod enc Tryd.prog W 0 (fun _ => true) true m 22 ((cs.toList.drop 33).take (Tryd.prog.cellsOf 22)) = some y2 := he 2 _ rfl
    rw [c22] at f2
    subst hd
    have hw' : ∀ n ∈ DataW.weightsEach Tryd.prog [28, 3, 22] [y0.1, y1.1, y2.1], n ≤ reachBytes := by
      have h0 : ∀ n ∈ (DataW.agg [y0.1, y1.1, y2.1]).weights Tryd.prog 34, n ≤ reachBytes := hw
      simp only [DataW.weights, hu] at h0
      exact h0
    simp only [DataW.weightsEach, List.mem_append, List.append_nil] at hw'
    obtain ⟨hs, e0, hh⟩ := (Opens.arrB Tryd.underlying28 Tryd.underlying5 (by kernel_rfl) (by kernel_rfl)) H enc W true m _ y0.1 y0.2 f0 (fun n hn => hw' n (.inl hn))
    obtain ⟨k, e1, _⟩ := Opens.int Tryd.underlying3 H enc W true m _ y1.1 y1.2 f1 (fun n hn => hw' n (.inr (.inl hn)))
    obtain ⟨bs, v, e2, hb⟩ := o_bytes H enc W true m _ y2.1 y2.2 f2 (fun n hn => hw' n (.inr (.inr hn)))
    obtain ⟨A, c, rfl, hc, hr, hm, _⟩ := bytes_of hb
    refine ⟨hs, k, A, c, bs, ?_, hh, hc, hr, hm⟩
    have e : cs.toList = caseCells hs k (.slice A bs.length c) := by
      rw [← List.take_append_drop 32 cs.toList]
      have h0 : cs.toList.take 32 = hs.map B := by simpa using e0
      have h1 : cs.toList.drop 32 = [.int .i64 k, .slice A bs.length c] := by
        have hd2 : (cs.toList.drop 32).length = 2 := by rw [List.length_drop]; omega
        match hq : cs.toList.drop 32, hd2 with
        | [p, q], _ =>
          have h3 : cs.toList.drop 33 = [q] := by
            have : cs.toList.drop 33 = (cs.toList.drop 32).drop 1 := by rw [List.drop_drop]
            rw [this, hq]; rfl
          rw [hq] at e1
          rw [h3] at e2
          have a1 : p = .int .i64 k := by simpa using e1
          have a2 : q = .slice A bs.length c := by simpa using e2
          rw [a1, a2]
      rw [h0, h1]
    show Value.agg cs = Value.agg _
    rw [← e]
#print axioms case_of
end Go.Proofs.YtcgdojdiihdkeaaDoor.card
