/- '==' and '!=' of arrays of bytes. Over any program. -/
import Derived.Test.YtdekealpachhmaaDoorBits
import Derived.DeepKeys
import Derived.Laws.StructEq
namespace Go.Isth
open Go Go.RowKit

theorem run_items {P : Program} (w : World) {e : TypeId} (hk : P.plainKey e = true) (he : P.underlying e = some (.int .u8)) (d : Nat) (as bs : List UInt8) : ∀ (is : List Nat), (∀ i ∈ is, i < as.length ∧ i < bs.length) →
    (Op.eqItems (d + 1) e 1 (as.map B).toArray (bs.map B).toArray is).run P w = .ok (is.all fun i => as.getD i 0 == bs.getD i 0) w
  | [], _ => by simp [Op.eqItems]
  | i :: is, h => by
    obtain ⟨h1, h2⟩ := h i (by simp)
    have p1 := run_part_plain (P := P) w hk (xs := (as.map B).toArray) (off := i * 1) (v := B as[i]) (by simp [h1])
    have p2 := run_part_plain (P := P) w hk (xs := (bs.map B).toArray) (off := i * 1) (v := B bs[i]) (by simp [h2])
    have p3 := run_equalIn_int (P := P) w d e .u8 .u8 (as[i].toNat : Int) (bs[i].toNat : Int) he
    have ih := run_items w hk he d as bs is (fun j hj => h j (by simp [hj]))
    have e1 : ((as[i].toNat : Int) == (bs[i].toNat : Int)) = (as[i] == bs[i]) := by
      rw [Bool.eq_iff_iff, beq_iff_eq, beq_iff_eq, Int.ofNat_inj]; exact UInt8.toNat_inj
    simp only [Op.eqItems, Sem.run_bind, p1, p2, Result.andThen_ok, p3, List.all_cons, e1, List.getD_eq_getElem?_getD, List.getElem?_eq_getElem h1, List.getElem?_eq_getElem h2, Option.getD_some]
    cases hq : (as[i] == bs[i])
    · simp
    · simpa using ih
theorem all_getD {n : Nat} {as bs : List UInt8} (ha : as.length = n) (hb : bs.length = n) : ((List.range n).all fun i => as.getD i 0 == bs.getD i 0) = (as == bs) := by
  rw [Bool.eq_iff_iff]
  simp only [List.all_eq_true, List.mem_range, beq_iff_eq]
  constructor
  · intro h
    apply List.ext_getElem (by omega)
    intro i h1 h2
    have := h i (by omega)
    simpa [List.getD_eq_getElem?_getD, h1, h2] using this
  · rintro rfl i _
    rfl
/-- An array of bytes. -/
structure ArrB (P : Program) (t e : TypeId) (n : Nat) : Prop where
  arr : P.underlying t = some (.array n e)
  elem : P.underlying e = some (.int .u8)
  info : (P.info? e).map (·.size) = some 1
  one : P.cellsOf e = 1
  key : P.plainKey e = true
theorem run_eql_bytes {P : Program} {t e : TypeId} {n : Nat} (h : ArrB P t e n) (w : World) (as bs : List UInt8) (ha : as.length = n) (hb : bs.length = n) :
    (binOp .eql t (.agg (as.map B).toArray) (.agg (bs.map B).toArray)).run P w = .ok (.bool (as == bs)) w := by
  obtain ⟨i, hi, _⟩ := Option.map_eq_some_iff.1 h.info
  rw [run_eql_struct, run_equalIn_array w 9999 _ _ h.arr hi, h.one, run_items w h.key h.elem 9998 as bs _ (fun j hj => by rw [List.mem_range] at hj; omega), all_getD ha hb]
  rfl
theorem run_neq_bytes {P : Program} {t e : TypeId} {n : Nat} (h : ArrB P t e n) (w : World) (as bs : List UInt8) (ha : as.length = n) (hb : bs.length = n) :
    (binOp .neq t (.agg (as.map B).toArray) (.agg (bs.map B).toArray)).run P w = .ok (.bool (!(as == bs))) w := by
  obtain ⟨i, hi, _⟩ := Option.map_eq_some_iff.1 h.info
  rw [run_neq_struct, run_equalIn_array w 9999 _ _ h.arr hi, h.one, run_items w h.key h.elem 9998 as bs _ (fun j hj => by rw [List.mem_range] at hj; omega), all_getD ha hb]
  rfl
#print axioms run_neq_bytes
end Go.Isth
