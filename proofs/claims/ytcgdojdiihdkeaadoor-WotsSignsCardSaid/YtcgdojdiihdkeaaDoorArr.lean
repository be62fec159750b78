/- Arguments that are arrays or structs: opened. -/
import Derived.Test.YtcgdojdiihdkeaaDoorCard
import Derived.Test.YtcgdojdiihdkeaaDoorShaC
namespace Go.Proofs.YtcgdojdiihdkeaaDoor.card
open Go.ChangeShapes Go.WideShapes Go.ChangeAt Go.RowKit Go.Isth

set_option maxRecDepth 100000 in
theorem hash_of {H : Type} {enc : TypeId × Value → H} {W : World} {base : Nat} {v : Value} {d : DataW H} {p : List MemPlace} (hv : Value.okWide Tryd.prog W .any base 28 v) (h : DataW.Trod enc Tryd.prog W 0 (fun _ => true) true 28 v d p) (hw : ∀ n ∈ d.weights Tryd.prog 28, n ≤ reachBytes) :
    ∃ hs : List UInt8, v = HV hs ∧ hs.length = 32 := by
  have hu := Tryd.underlying28
  simp only [Value.okWide, hu] at hv
  obtain ⟨cs, rfl, _, _⟩ := hv
  obtain ⟨fuel, hf⟩ := h
  obtain ⟨hs, e, hl⟩ := (Opens.arrB Tryd.underlying28 Tryd.underlying5 (by kernel_rfl) (by kernel_rfl)) H enc W true fuel _ d p hf hw
  refine ⟨hs, ?_, hl⟩
  have e' : cs.toList = hs.map B := e
  show Value.agg cs = Value.agg (hs.map B).toArray
  rw [← e']
theorem i64_wf5 {n : Int} (h : (Lit.int .i64 n).wf = true) : -9223372036854775808 ≤ n ∧ n < 9223372036854775808 := by
  have h2 : -9223372036854775808 ≤ n ∧ n ≤ 9223372036854775807 := by simpa [Lit.wf, IntKind.min, IntKind.max, IntKind.signed, IntKind.bits] using h
  omega
theorem ints_trod {t : TypeId} {n : Nat} (hu : Tryd.prog.underlying t = some (.array n 3)) (hc : Tryd.prog.cellsOf t = n) {H : Type} {enc : TypeId × Value → H} {W : World} {cs : Array Value} {d : DataW H} {p : List MemPlace} (h : DataW.Trod enc Tryd.prog W 0 (fun _ => true) true t (.agg cs) d p) :
    ∃ l : List Int, cs = (l.map (Value.int .i64)).toArray ∧ l.length = n ∧ ∀ x ∈ l, -9223372036854775808 ≤ x ∧ x < 9223372036854775808 := by
  obtain ⟨fuel, hf⟩ := h
  obtain ⟨xs, m, _, _, hl, hxl, he⟩ := DataW.trod_array hu hf
  have c1 : Tryd.prog.cellsOf 3 = 1 := by kernel_rfl
  rw [hc] at hl
  have hl' : cs.toList.length = n := hl
  have each : ∀ i, i < n → ∃ x : Int, cs.toList[i]? = some (.int .i64 x) ∧ -9223372036854775808 ≤ x ∧ x < 9223372036854775808 := by
    intro i hi
    have h1 := he i hi
    rw [c1, List.getElem?_eq_getElem (by omega)] at h1
    obtain ⟨x, hb, _, hw⟩ := DataW.trod_int Tryd.underlying3 h1
    refine ⟨x, ?_, i64_wf5 hw⟩
    have h2 : (((cs.toList.drop (i * 1)).take 1)[0]?) = some (.int .i64 x) := by rw [show (cs.toList.drop (i * 1)).take 1 = [.int .i64 x] from hb]; rfl
    rwa [List.getElem?_take, if_pos (by omega), List.getElem?_drop, Nat.mul_one, Nat.add_zero] at h2
  obtain ⟨f, hfb⟩ := Go.Deep.choose_lt each
  refine ⟨(List.range n).map f, ?_, by simp, fun x hx => ?_⟩
  · have e : cs.toList = ((List.range n).map f).map (Value.int .i64) := by
      apply List.ext_getElem?
      intro i
      rcases Nat.lt_or_ge i n with hi | hi
      · rw [(hfb i hi).1]; simp [hi]
      · rw [List.getElem?_eq_none (by omega), List.getElem?_eq_none (by simpa using hi)]
    rw [← e]
  · obtain ⟨i, hi, rfl⟩ := List.mem_map.1 hx
    exact (hfb i (by simpa using hi)).2
set_option maxRecDepth 100000 in
theorem int2_of {H : Type} {enc : TypeId × Value → H} {W : World} {base : Nat} {v : Value} {d : DataW H} {p : List MemPlace} (hv : Value.okWide Tryd.prog W .any base 47 v) (h : DataW.Trod enc Tryd.prog W 0 (fun _ => true) true 47 v d p) :
    ∃ x y : Int, v = .agg #[.int .i64 x, .int .i64 y] := by
  have hu := Tryd.underlying47
  simp only [Value.okWide, hu] at hv
  obtain ⟨cs, rfl, _, _⟩ := hv
  obtain ⟨l, rfl, hl, _⟩ := ints_trod hu (by kernel_rfl) h
  match l, hl with
  | [x, y], _ => exact ⟨x, y, rfl⟩
set_option maxRecDepth 100000 in
theorem int3_of {H : Type} {enc : TypeId × Value → H} {W : World} {base : Nat} {v : Value} {d : DataW H} {p : List MemPlace} (hv : Value.okWide Tryd.prog W .any base 48 v) (h : DataW.Trod enc Tryd.prog W 0 (fun _ => true) true 48 v d p) :
    ∃ x y z : Int, v = .agg #[.int .i64 x, .int .i64 y, .int .i64 z] := by
  have hu := Tryd.underlying48
  simp only [Value.okWide, hu] at hv
  obtain ⟨cs, rfl, _, _⟩ := hv
  obtain ⟨l, rfl, hl, _⟩ := ints_trod hu (by kernel_rfl) h
  match l, hl with
  | [x, y, z], _ => exact ⟨x, y, z, rfl⟩
#print axioms int3_of
end Go.Proofs.YtcgdojdiihdkeaaDoor.card
