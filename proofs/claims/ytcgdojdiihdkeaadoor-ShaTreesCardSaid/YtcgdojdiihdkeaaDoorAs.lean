/- errors.As at the target *api.Errno: an api.Fault of an api.Errno; an api.Errno itself; nil. -/
import Derived.Test.YtcgdojdiihdkeaaDoorProg
import Derived.Test.YtcgdojdiihdkeaaDoorMem
import Derived.LaidEql
import Derived.Stop.Asserts
import Derived.RowKitTokens
import Derived.Lib.Hide
namespace Go.Proofs.YtcgdojdiihdkeaaDoor
open Go Go.RowKit Go.Isth Go.Extern.Stop Go.Stop Go.Extern
abbrev TH (t : TypeId) : Value := .pointer (some ⟨3, t, none⟩)
abbrev VP (a : Addr) : Value := .agg #[TH 111, .pointer (some a), .int .u64 150]

theorem as_nil (t : Value) (w : World) : Calls Tryd.prog 69 #[.nilIface, t] w fun e w' => e = .returned (.bool false) ∧ w' = w := by
  go_enter Tryd.func69, Tryd.ntmps69
  go_wp2
  go_ret
  exact ⟨rfl, rfl⟩

theorem asValueOfP (t : Addr) (w : World) : (ReflectliteValue.unpack (.iface 111 (.pointer (some t)))).run Tryd.prog w = .ok (VP ⟨w.heap.size, 0, none⟩) (w.alloc (.cells #[.pointer (some t)] 111)) := by kernel_rfl
theorem asTypeP (a : Addr) (w : World) : (ReflectliteValue.methodAny (ReflectliteValue.valueError "reflectlite.Value.Type" 0) (fun t _ _ _ => ReflectliteType.toType t) #[VP a]).run Tryd.prog w = .ok (.iface 145 (.agg #[TH 111])) w := by kernel_rfl
theorem asMethodKind (h : Value) (w : World) : (Go.method 288 145 (.agg #[h]) "Kind").run Tryd.prog w = .ok (112, h) w := by kernel_rfl
theorem asKindP (w : World) : ((ReflectliteType.abiMethod fun t => (fun a : Nat => Value.int IntKind.u8 (a : Int)) <$> Rtype.kind t) #[TH 111]).run Tryd.prog w = .ok (.int .u8 22) w := by kernel_rfl
theorem asKindE (w : World) : ((ReflectliteType.abiMethod fun t => (fun a : Nat => Value.int IntKind.u8 (a : Int)) <$> Rtype.kind t) #[TH 91]).run Tryd.prog w = .ok (.int .u8 2) w := by kernel_rfl
theorem asRlm (z : Sem Value) (f : TypeId → Addr → Nat → Nat → Sem Value) (v : Value) :
    ReflectliteValue.method z f #[v] = (do match ← ReflectliteValue.parts v with | none => z | some (t, a, fl) => f t a fl (fl % 32)) := rfl
theorem asPartsP (a : Addr) (w : World) : (ReflectliteValue.parts (VP a)).run Tryd.prog w = .ok (some (111, a, 150)) w := by kernel_rfl
theorem asIsNilP (a p : Addr) (W : World) (ha : W.cell? a = some (.pointer (some p))) :
    (ReflectliteValue.method (ReflectliteValue.valueError "reflectlite.Value.IsNil" 0) ReflectliteValue.isNil #[VP a]).run Tryd.prog W = .ok (.bool false) W := by
  rw [asRlm]
  simp only [Sem.run_bind, asPartsP, Result.andThen]
  simp [ReflectliteValue.isNil, loadVar, isAgg, underlying, Tryd.underlying111, ha, Result.andThen]
theorem asMethodElem (h : Value) (w : World) : (Go.method 288 145 (.agg #[h]) "Elem").run Tryd.prog w = .ok (125, .agg #[h]) w := by kernel_rfl
theorem asMethodImplements (h : Value) (w : World) : (Go.method 288 145 (.agg #[h]) "Implements").run Tryd.prog w = .ok (126, .agg #[h]) w := by kernel_rfl
theorem asMethodAssignable (h : Value) (w : World) : (Go.method 288 145 (.agg #[h]) "AssignableTo").run Tryd.prog w = .ok (123, .agg #[h]) w := by kernel_rfl
theorem asElemP (w : World) : (ReflectliteType.method ReflectliteType.elem #[.agg #[TH 111]]).run Tryd.prog w = .ok (.iface 145 (.agg #[TH 91])) w := by kernel_rfl
theorem asImplE (w : World) : (ReflectliteType.relation "Implements" ReflectliteType.implements_ #[.agg #[TH 91], .iface 145 (.agg #[TH 36])]).run Tryd.prog w = .ok (.bool true) w := by kernel_rfl
theorem asTypeOfF (v : Value) (w : World) : (ReflectliteType.typeOf #[.iface 95 v]).run Tryd.prog w = .ok (.iface 145 (.agg #[TH 95])) w := by kernel_rfl
theorem asTypeOfE (v : Value) (w : World) : (ReflectliteType.typeOf #[.iface 91 v]).run Tryd.prog w = .ok (.iface 145 (.agg #[TH 91])) w := by kernel_rfl
theorem asAssignE (w : World) : (ReflectliteType.relation "AssignableTo" ReflectliteType.assignableTo #[.agg #[TH 91], .iface 145 (.agg #[TH 91])]).run Tryd.prog w = .ok (.bool true) w := by kernel_rfl
theorem asAssignF (w : World) : (ReflectliteType.relation "AssignableTo" ReflectliteType.assignableTo #[.agg #[TH 95], .iface 145 (.agg #[TH 91])]).run Tryd.prog w = .ok (.bool false) w := by kernel_rfl
theorem asValueOfE (k : Int) (w : World) : (ReflectliteValue.unpack (.iface 91 (.int .i64 k))).run Tryd.prog w = .ok (.agg #[TH 91, .pointer (some ⟨w.heap.size, 0, none⟩), .int .u64 130]) (w.alloc (.cells #[.int .i64 k] 91)) := by kernel_rfl
theorem asElemOfP (w : World) : (Rtype.elem? 111).run Tryd.prog w = .ok (some 91) w := by kernel_rfl
theorem asMkE (p : Addr) (w : World) : (ReflectliteValue.mk 91 p ReflectliteValue.flagAddr).run Tryd.prog w = .ok (.agg #[TH 91, .pointer (some p), .int .u64 386]) w := by kernel_rfl
theorem asElemVP (a p : Addr) (W : World) (ha : W.cell? a = some (.pointer (some p))) :
    (ReflectliteValue.method (ReflectliteValue.valueError "reflectlite.Value.Elem" 0) ReflectliteValue.elem #[VP a]).run Tryd.prog W = .ok (.agg #[TH 91, .pointer (some p), .int .u64 386]) W := by
  rw [asRlm]
  simp only [Sem.run_bind, asPartsP, Result.andThen]
  simp [ReflectliteValue.elem, loadVar, isAgg, underlying, Tryd.underlying111, ha, Result.andThen, asElemOfP, asMkE]
theorem asRls (v x : Value) : ReflectliteValue.set #[v, x] = (do
    let (some (dst, a, fl), some (src, b, _)) := (← ReflectliteValue.parts v, ← ReflectliteValue.parts x)
      | unsupported (.noEntry "extern/(internal/reflectlite.Value).Set.zeroValue")
    if fl / ReflectliteValue.flagAddr % 2 == 0 then unsupported (.noEntry "extern/(internal/reflectlite.Value).Set.unaddressable")
    let val ← loadVar src b
    if ← Rtype.directlyAssignable dst src then storeVar dst a val
    else if ← Rtype.implements dst src then
      if (← Rtype.kind src) == 20 then
        match val with
        | .nilIface => unsupported (.noEntry "extern/reflectlite: a nil value of one interface type handed on as a value of another")
        | _ => storeVar dst a val
      else storeVar dst a (.iface src val)
    else panicString ("reflectlite.Set: value of type " ++ (← Rtype.spelt src) ++ " is not assignable to type " ++ (← Rtype.spelt dst))
    pure (.tuple #[])) := rfl
theorem asPartsEa (a : Addr) (w : World) : (ReflectliteValue.parts (.agg #[TH 91, .pointer (some a), .int .u64 386])).run Tryd.prog w = .ok (some (91, a, 386)) w := by kernel_rfl
theorem asPartsE (a : Addr) (w : World) : (ReflectliteValue.parts (.agg #[TH 91, .pointer (some a), .int .u64 130])).run Tryd.prog w = .ok (some (91, a, 130)) w := by kernel_rfl
theorem asDirectE (w : World) : (Rtype.directlyAssignable 91 91).run Tryd.prog w = .ok true w := by kernel_rfl
theorem asSizeE (w : World) : (sizeOf 91).run Tryd.prog w = .ok 1 w := by kernel_rfl
theorem asSetE (ta b : Addr) (k : Int) (old : Value) (W : World) (hb : W.cell? b = some (.int .i64 k)) (ht : W.cell? ta = some old) (hf : W.frozen? ta = false) :
    (ReflectliteValue.set #[.agg #[TH 91, .pointer (some ta), .int .u64 386], .agg #[TH 91, .pointer (some b), .int .u64 130]]).run Tryd.prog W = .ok (.tuple #[]) (W.setCell ta (.int .i64 k)) := by
  rw [asRls]
  simp only [Sem.run_bind, asPartsEa, asPartsE, Result.andThen]
  simp [ReflectliteValue.flagAddr, loadVar, isAgg, underlying, Tryd.underlying91, hb, Result.andThen, asDirectE, storeVar, Value.cells, storeCells, Addr.add]
  rw [run_store Tryd.prog W ta _ _ (by rfl)]
  simp [ht, hf]

theorem asNoAsF (v : Value) (xT : TypeId) (w : World) : (Instr.typeAssert (.iface 95 v) xT 150 true).run Tryd.prog w = .ok (.tuple #[.nilIface, .bool false]) w := run_typeAssert_lacksB Tryd.underlying150 (by kernel_rfl) (by kernel_rfl) v xT w
theorem asUnwrapF (v : Value) (xT : TypeId) (w : World) : (Instr.typeAssert (.iface 95 v) xT 153 true).run Tryd.prog w = .ok (.tuple #[.iface 95 v, .bool true]) w := run_typeAssert_hasB Tryd.underlying153 (by kernel_rfl) v xT w
theorem asMethodUnwrap (v : Value) (w : World) : (Go.method 288 95 v "Unwrap").run Tryd.prog w = .ok (117, v) w := by kernel_rfl

abbrev V3 (w : World) : Array Value := #[TH 111, .pointer (some ⟨w.heap.size, 0, none⟩), .int .u64 150]
abbrev A1 (w : World) (t : Addr) : World := w.alloc (.cells #[.pointer (some t)] 111)
abbrev A2 (w : World) (t : Addr) : World := (A1 w t).alloc (.cells (V3 w) 127)
abbrev A3 (w : World) (t : Addr) : World := (A2 w t).alloc (.cells (V3 w) 127)
abbrev A4 (w : World) (t : Addr) (k : Int) : World := (A3 w t).alloc (.cells #[.int .i64 k] 91)

set_option maxHeartbeats 4000000 in
theorem as_fault (b : Nat) (s : ByteArray) (k : Int) (t : Addr) (old : Value) (w : World) (hc : w.heap[b]? = some (.cells #[.string s, .iface 91 (.int .i64 k)] 97 (0, 0)))
    (hg : w.cell? ⟨1, 0, none⟩ = some (.iface 145 (.agg #[TH 36]))) (ht0 : w.cell? t = some old) (hf0 : w.frozen? t = false) :
    Calls Tryd.prog 69 #[.iface 95 (.pointer (some ⟨b, 0, none⟩)), .iface 111 (.pointer (some t))] w fun ev w' => ev = .returned (.bool true) ∧ w' = (A4 w t k).setCell t (.int .i64 k) := by
  have h0 : w.cell? ⟨b, 0, none⟩ = some (.string s) := cell_of_row w b 0 _ _ _ hc
  have h1 : w.cell? ⟨b, 1, none⟩ = some (.iface 91 (.int .i64 k)) := cell_of_row w b 1 _ _ _ hc
  have hbl : b < w.heap.size := (Array.getElem?_eq_some_iff.1 hc).1
  have hV := @run_callFunc_extern Tryd.prog 82 _ (fun args => ReflectliteValue.unpack (args.getD 0 (.tuple #[]))) Tryd.func82 (by kernel_rfl) (by kernel_rfl) (by kernel_rfl) (by kernel_rfl)
  have hT := @run_callFunc_extern Tryd.prog 83 _ (ReflectliteValue.methodAny (ReflectliteValue.valueError "reflectlite.Value.Type" 0) (fun t _ _ _ => ReflectliteType.toType t)) Tryd.func83 (by kernel_rfl) (by kernel_rfl) (by kernel_rfl) (by kernel_rfl)
  have hI := @run_callFunc_extern Tryd.prog 84 _ (ReflectliteValue.method (ReflectliteValue.valueError "reflectlite.Value.IsNil" 0) ReflectliteValue.isNil) Tryd.func84 (by kernel_rfl) (by kernel_rfl) (by kernel_rfl) (by kernel_rfl)
  have hK := @run_callFunc_extern Tryd.prog 112 _ (ReflectliteType.abiMethod fun t => do pure (.int .u8 (← Rtype.kind t))) Tryd.func112 (by kernel_rfl) (by kernel_rfl) (by kernel_rfl) (by kernel_rfl)
  have hE := @run_callFunc_extern Tryd.prog 125 _ (ReflectliteType.method ReflectliteType.elem) Tryd.func125 (by kernel_rfl) (by kernel_rfl) (by kernel_rfl) (by kernel_rfl)
  have hM := @run_callFunc_extern Tryd.prog 126 _ (ReflectliteType.relation "Implements" ReflectliteType.implements_) Tryd.func126 (by kernel_rfl) (by kernel_rfl) (by kernel_rfl) (by kernel_rfl)
  have hO := @run_callFunc_extern Tryd.prog 94 _ ReflectliteType.typeOf Tryd.func94 (by kernel_rfl) (by kernel_rfl) (by kernel_rfl) (by kernel_rfl)
  have hA := @run_callFunc_extern Tryd.prog 123 _ (ReflectliteType.relation "AssignableTo" ReflectliteType.assignableTo) Tryd.func123 (by kernel_rfl) (by kernel_rfl) (by kernel_rfl) (by kernel_rfl)
  have hL := @run_callFunc_extern Tryd.prog 95 _ (ReflectliteValue.method (ReflectliteValue.valueError "reflectlite.Value.Elem" 0) ReflectliteValue.elem) Tryd.func95 (by kernel_rfl) (by kernel_rfl) (by kernel_rfl) (by kernel_rfl)
  have hS := @run_callFunc_extern Tryd.prog 96 _ ReflectliteValue.set Tryd.func96 (by kernel_rfl) (by kernel_rfl) (by kernel_rfl) (by kernel_rfl)
  have q1 := asTypeOfF
  have q2 := asTypeOfE
  have q3 := asMethodAssignable
  have q4 := asAssignE
  have q5 := asAssignF
  have q6 := asValueOfE k
  have q7 := asValueOfP
  have q8 := asTypeP
  have q9 := asMethodKind
  have qa := asMethodElem
  have qb := asMethodImplements
  have qc := asKindP
  have qd := asKindE
  have qe := asElemP
  have qf := asImplE
  have qg := asNoAsF
  have qh := asUnwrapF
  have qi := asMethodUnwrap
  have htl : t.block < w.heap.size := by
    rcases Nat.lt_or_ge t.block w.heap.size with h | h
    · exact h
    · simp [World.cell?, Array.getElem?_eq_none h] at ht0
  have hgl : 1 < w.heap.size := by
    rcases Nat.lt_or_ge 1 w.heap.size with h | h
    · exact h
    · simp [World.cell?, Array.getElem?_eq_none h] at hg
  have b1 : Below w.heap.size w (A1 w t) := (Below.refl _ _).alloc (Nat.le_refl _) _
  have b2 : Below w.heap.size w (A2 w t) := b1.alloc (by rw [World.size_alloc]; omega) _
  have b3 : Below w.heap.size w (A3 w t) := b2.alloc b2.size _
  have b4 : Below w.heap.size w (A4 w t k) := b3.alloc b3.size _
  have hg2 := (b2.cell (p := ⟨1, 0, none⟩) hgl).trans hg
  have hb0 := (b3.cell (p := ⟨b, 0, none⟩) hbl).trans h0
  have hb1 := (b3.cell (p := ⟨b, 1, none⟩) hbl).trans h1
  have n8 := asIsNilP ⟨w.heap.size, 0, none⟩ t (A2 w t) (by rw [World.cell?_alloc_lt _ _ ⟨w.heap.size, 0, none⟩ (by simp)]; simp)
  have el := asElemVP ⟨w.heap.size, 0, none⟩ t (A3 w t) (by rw [World.cell?_alloc_lt _ _ ⟨w.heap.size, 0, none⟩ (by simp; omega), World.cell?_alloc_lt _ _ ⟨w.heap.size, 0, none⟩ (by simp)]; simp)
  have st := asSetE t ⟨w.heap.size + 1 + 1 + 1, 0, none⟩ k old (A4 w t k) (by rw [World.cell?_alloc_at _ _ _ _ (by simp)]; rfl) ((b4.cell htl).trans ht0) ((b4.frozen htl).trans hf0)
  clear hc hbl htl hgl b1 b2 b3 b4 h0 h1
  go_enter Tryd.func69, Tryd.ntmps69
  go_wp2
  refine wp_loop_rounds 2 ?_
  rw [rounds_succ]
  go_wp2
  rw [rounds_succ]
  go_wp2
  go_ret
  exact ⟨rfl, rfl⟩
#print axioms as_fault
end Go.Proofs.YtcgdojdiihdkeaaDoor
