/- errors.As at the target *api.Errno: an api.Fault of an api.Errno; an api.Errno itself; nil. -/
import Derived.Test.YtdmopnmifdjcnaaDoorProg
import Derived.Test.YtdmopnmifdjcnaaDoorMem
import Derived.LaidEql
import Derived.Stop.Asserts
import Derived.RowKitTokens
import Derived.Lib.Hide
namespace Go.Proofs.YtdmopnmifdjcnaaDoor
open Go Go.RowKit Go.Isth Go.Extern.Stop Go.Stop Go.Extern
abbrev TH (t : TypeId) : Value := .pointer (some ⟨1, t, none⟩)
abbrev VP (a : Addr) : Value := .agg #[TH 78, .pointer (some a), .int .u64 150]

theorem as_nil (t : Value) (w : World) : Calls Tryd.prog 42 #[.nilIface, t] w fun e w' => e = .returned (.bool false) ∧ w' = w := by
  go_enter Tryd.func42, Tryd.ntmps42
  go_wp2
  go_ret
  exact ⟨rfl, rfl⟩

theorem asValueOfP (t : Addr) (w : World) : (ReflectliteValue.unpack (.iface 78 (.pointer (some t)))).run Tryd.prog w = .ok (VP ⟨w.heap.size, 0, none⟩) (w.alloc (.cells #[.pointer (some t)] 78)) := by kernel_rfl
theorem asTypeP (a : Addr) (w : World) : (ReflectliteValue.methodAny (ReflectliteValue.valueError "reflectlite.Value.Type" 0) (fun t _ _ _ => ReflectliteType.toType t) #[VP a]).run Tryd.prog w = .ok (.iface 108 (.agg #[TH 78])) w := by kernel_rfl
theorem asMethodKind (h : Value) (w : World) : (Go.method 249 108 (.agg #[h]) "Kind").run Tryd.prog w = .ok (73, h) w := by kernel_rfl
theorem asKindP (w : World) : ((ReflectliteType.abiMethod fun t => (fun a : Nat => Value.int IntKind.u8 (a : Int)) <$> Rtype.kind t) #[TH 78]).run Tryd.prog w = .ok (.int .u8 22) w := by kernel_rfl
theorem asKindE (w : World) : ((ReflectliteType.abiMethod fun t => (fun a : Nat => Value.int IntKind.u8 (a : Int)) <$> Rtype.kind t) #[TH 71]).run Tryd.prog w = .ok (.int .u8 2) w := by kernel_rfl
theorem asRlm (z : Sem Value) (f : TypeId → Addr → Nat → Nat → Sem Value) (v : Value) :
    ReflectliteValue.method z f #[v] = (do match ← ReflectliteValue.parts v with | none => z | some (t, a, fl) => f t a fl (fl % 32)) := rfl
theorem asPartsP (a : Addr) (w : World) : (ReflectliteValue.parts (VP a)).run Tryd.prog w = .ok (some (78, a, 150)) w := by kernel_rfl
theorem asIsNilP (a p : Addr) (W : World) (ha : W.cell? a = some (.pointer (some p))) :
    (ReflectliteValue.method (ReflectliteValue.valueError "reflectlite.Value.IsNil" 0) ReflectliteValue.isNil #[VP a]).run Tryd.prog W = .ok (.bool false) W := by
  rw [asRlm]
  simp only [Sem.run_bind, asPartsP, Result.andThen]
  simp [ReflectliteValue.isNil, loadVar, isAgg, underlying, Tryd.underlying78, ha, Result.andThen]
theorem asMethodElem (h : Value) (w : World) : (Go.method 249 108 (.agg #[h]) "Elem").run Tryd.prog w = .ok (85, .agg #[h]) w := by kernel_rfl
theorem asMethodImplements (h : Value) (w : World) : (Go.method 249 108 (.agg #[h]) "Implements").run Tryd.prog w = .ok (86, .agg #[h]) w := by kernel_rfl
theorem asMethodAssignable (h : Value) (w : World) : (Go.method 249 108 (.agg #[h]) "AssignableTo").run Tryd.prog w = .ok (83, .agg #[h]) w := by kernel_rfl
theorem asElemP (w : World) : (ReflectliteType.method ReflectliteType.elem #[.agg #[TH 78]]).run Tryd.prog w = .ok (.iface 108 (.agg #[TH 71])) w := by kernel_rfl
theorem asImplE (w : World) : (ReflectliteType.relation "Implements" ReflectliteType.implements_ #[.agg #[TH 71], .iface 108 (.agg #[TH 25])]).run Tryd.prog w = .ok (.bool true) w := by kernel_rfl
theorem asTypeOfF (v : Value) (w : World) : (ReflectliteType.typeOf #[.iface 90 v]).run Tryd.prog w = .ok (.iface 108 (.agg #[TH 90])) w := by kernel_rfl
theorem asTypeOfE (v : Value) (w : World) : (ReflectliteType.typeOf #[.iface 71 v]).run Tryd.prog w = .ok (.iface 108 (.agg #[TH 71])) w := by kernel_rfl
theorem asAssignE (w : World) : (ReflectliteType.relation "AssignableTo" ReflectliteType.assignableTo #[.agg #[TH 71], .iface 108 (.agg #[TH 71])]).run Tryd.prog w = .ok (.bool true) w := by kernel_rfl
theorem asAssignF (w : World) : (ReflectliteType.relation "AssignableTo" ReflectliteType.assignableTo #[.agg #[TH 90], .iface 108 (.agg #[TH 71])]).run Tryd.prog w = .ok (.bool false) w := by kernel_rfl
theorem asValueOfE (k : Int) (w : World) : (ReflectliteValue.unpack (.iface 71 (.int .i64 k))).run Tryd.prog w = .ok (.agg #[TH 71, .pointer (some ⟨w.heap.size, 0, none⟩), .int .u64 130]) (w.alloc (.cells #[.int .i64 k] 71)) := by kernel_rfl
theorem asElemOfP (w : World) : (Rtype.elem? 78).run Tryd.prog w = .ok (some 71) w := by kernel_rfl
theorem asMkE (p : Addr) (w : World) : (ReflectliteValue.mk 71 p ReflectliteValue.flagAddr).run Tryd.prog w = .ok (.agg #[TH 71, .pointer (some p), .int .u64 386]) w := by kernel_rfl
theorem asElemVP (a p : Addr) (W : World) (ha : W.cell? a = some (.pointer (some p))) :
    (ReflectliteValue.method (ReflectliteValue.valueError "reflectlite.Value.Elem" 0) ReflectliteValue.elem #[VP a]).run Tryd.prog W = .ok (.agg #[TH 71, .pointer (some p), .int .u64 386]) W := by
  rw [asRlm]
  simp only [Sem.run_bind, asPartsP, Result.andThen]
  simp [ReflectliteValue.elem, loadVar, isAgg, underlying, Tryd.underlying78, ha, Result.andThen, asElemOfP, asMkE]
theorem asRls (v x : Value) : ReflectliteValue.set #[v, x] = (do
    let (some (dst, a, fl), some (src, b, _)) := (← ReflectliteValue.parts v, ← ReflectliteValue.parts x)
      | unsupported (.noEntry "extern/(internal/reflectlite.Value).Set.zeroValue")
    if fl / ReflectliteValue.flagAddr % 2 == 0 then unsupported (.noEntry "extern/(internal/reflectlite.Value).Set.unaddressable")
    let val ← loadVar src b
    if ← Rtype.directlyAssignable dst src then storeVar dst a val
    else if ← Rtype.implements dst src then
      if (← Rtype.kind src) == 20 then
        match val with
        | .nilIface => unsupported (.noEntry "extern/reflectlite: a nil value of one interface type handed on as a value of another")
        | _ => storeVar dst a val
      else storeVar dst a (.iface src val)
    else panicString ("reflectlite.Set: value of type " ++ (← Rtype.spelt src) ++ " is not assignable to type " ++ (← Rtype.spelt dst))
    pure (.tuple #[])) := rfl
theorem asPartsEa (a : Addr) (w : World) : (ReflectliteValue.parts (.agg #[TH 71, .pointer (some a), .int .u64 386])).run Tryd.prog w = .ok (some (71, a, 386)) w := by kernel_rfl
theorem asPartsE (a : Addr) (w : World) : (ReflectliteValue.parts (.agg #[TH 71, .pointer (some a), .int .u64 130])).run Tryd.prog w = .ok (some (71, a, 130)) w := by kernel_rfl
theorem asDirectE (w : World) : (Rtype.directlyAssignable 71 71).run Tryd.prog w = .ok true w := by kernel_rfl
theorem asSizeE (w : World) : (sizeOf 71).run Tryd.prog w = .ok 1 w := by kernel_rfl
theorem asSetE (ta b : Addr) (k : Int) (old : Value) (W : World) (hb : W.cell? b = some (.int .i64 k)) (ht : W.cell? ta = some old) (hf : W.frozen? ta = false) :
    (ReflectliteValue.set #[.agg #[TH 71, .pointer (some ta), .int .u64 386], .agg #[TH 71, .pointer (some b), .int .u64 130]]).run Tryd.prog W = .ok (.tuple #[]) (W.setCell ta (.int .i64 k)) := by
  rw [asRls]
  simp only [Sem.run_bind, asPartsEa, asPartsE, Result.andThen]
  simp [ReflectliteValue.flagAddr, loadVar, isAgg, underlying, Tryd.underlying71, hb, Result.andThen, asDirectE, storeVar, Value.cells, storeCells, Addr.add]
  rw [run_store Tryd.prog W ta _ _ (by rfl)]
  simp [ht, hf]

theorem asNoAsF (v : Value) (xT : TypeId) (w : World) : (Instr.typeAssert (.iface 90 v) xT 118 true).run Tryd.prog w = .ok (.tuple #[.nilIface, .bool false]) w := run_typeAssert_lacksB Tryd.underlying118 (by kernel_rfl) (by kernel_rfl) v xT w
theorem asUnwrapF (v : Value) (xT : TypeId) (w : World) : (Instr.typeAssert (.iface 90 v) xT 112 true).run Tryd.prog w = .ok (.tuple #[.iface 90 v, .bool true]) w := run_typeAssert_hasB Tryd.underlying112 (by kernel_rfl) v xT w
theorem asMethodUnwrap (v : Value) (w : World) : (Go.method 249 90 v "Unwrap").run Tryd.prog w = .ok (78, v) w := by kernel_rfl

abbrev V3 (w : World) : Array Value := #[TH 78, .pointer (some ⟨w.heap.size, 0, none⟩), .int .u64 150]
abbrev A1 (w : World) (t : Addr) : World := w.alloc (.cells #[.pointer (some t)] 78)
abbrev A2 (w : World) (t : Addr) : World := (A1 w t).alloc (.cells (V3 w) 100)
abbrev A3 (w : World) (t : Addr) : World := (A2 w t).alloc (.cells (V3 w) 100)
abbrev A4 (w : World) (t : Addr) (k : Int) : World := (A3 w t).alloc (.cells #[.int .i64 k] 71)

set_option maxHeartbeats 4000000 in
theorem as_fault (b : Nat) (s : ByteArray) (k : Int) (t : Addr) (old : Value) (w : World) (hc : w.heap[b]? = some (.cells #[.string s, .iface 71 (.int .i64 k)] 92 (0, 0)))
    (hg : w.cell? ⟨0, 0, none⟩ = some (.iface 108 (.agg #[TH 25]))) (ht0 : w.cell? t = some old) (hf0 : w.frozen? t = false) :
    Calls Tryd.prog 42 #[.iface 90 (.pointer (some ⟨b, 0, none⟩)), .iface 78 (.pointer (some t))] w fun ev w' => ev = .returned (.bool true) ∧ w' = (A4 w t k).setCell t (.int .i64 k) := by
  have h0 : w.cell? ⟨b, 0, none⟩ = some (.string s) := cell_of_row w b 0 _ _ _ hc
  have h1 : w.cell? ⟨b, 1, none⟩ = some (.iface 71 (.int .i64 k)) := cell_of_row w b 1 _ _ _ hc
  have hbl : b < w.heap.size := (Array.getElem?_eq_some_iff.1 hc).1
  have hV := @run_callFunc_extern Tryd.prog 53 _ (fun args => ReflectliteValue.unpack (args.getD 0 (.tuple #[]))) Tryd.func53 (by kernel_rfl) (by kernel_rfl) (by kernel_rfl) (by kernel_rfl)
  have hT := @run_callFunc_extern Tryd.prog 54 _ (ReflectliteValue.methodAny (ReflectliteValue.valueError "reflectlite.Value.Type" 0) (fun t _ _ _ => ReflectliteType.toType t)) Tryd.func54 (by kernel_rfl) (by kernel_rfl) (by kernel_rfl) (by kernel_rfl)
  have hI := @run_callFunc_extern Tryd.prog 55 _ (ReflectliteValue.method (ReflectliteValue.valueError "reflectlite.Value.IsNil" 0) ReflectliteValue.isNil) Tryd.func55 (by kernel_rfl) (by kernel_rfl) (by kernel_rfl) (by kernel_rfl)
  have hK := @run_callFunc_extern Tryd.prog 73 _ (ReflectliteType.abiMethod fun t => do pure (.int .u8 (← Rtype.kind t))) Tryd.func73 (by kernel_rfl) (by kernel_rfl) (by kernel_rfl) (by kernel_rfl)
  have hE := @run_callFunc_extern Tryd.prog 85 _ (ReflectliteType.method ReflectliteType.elem) Tryd.func85 (by kernel_rfl) (by kernel_rfl) (by kernel_rfl) (by kernel_rfl)
  have hM := @run_callFunc_extern Tryd.prog 86 _ (ReflectliteType.relation "Implements" ReflectliteType.implements_) Tryd.func86 (by kernel_rfl) (by kernel_rfl) (by kernel_rfl) (by kernel_rfl)
  have hO := @run_callFunc_extern Tryd.prog 51 _ ReflectliteType.typeOf Tryd.func51 (by kernel_rfl) (by kernel_rfl) (by kernel_rfl) (by kernel_rfl)
  have hA := @run_callFunc_extern Tryd.prog 83 _ (ReflectliteType.relation "AssignableTo" ReflectliteType.assignableTo) Tryd.func83 (by kernel_rfl) (by kernel_rfl) (by kernel_rfl) (by kernel_rfl)
  have hL := @run_callFunc_extern Tryd.prog 57 _ (ReflectliteValue.method (ReflectliteValue.valueError "reflectlite.Value.Elem" 0) ReflectliteValue.elem) Tryd.func57 (by kernel_rfl) (by kernel_rfl) (by kernel_rfl) (by kernel_rfl)
  have hS := @run_callFunc_extern Tryd.prog 58 _ ReflectliteValue.set Tryd.func58 (by kernel_rfl) (by kernel_rfl) (by kernel_rfl) (by kernel_rfl)
  have q1 := asTypeOfF
  have q2 := asTypeOfE
  have q3 := asMethodAssignable
  have q4 := asAssignE
  have q5 := asAssignF
  have q6 := asValueOfE k
  have q7 := asValueOfP
  have q8 := asTypeP
  have q9 := asMethodKind
  have qa := asMethodElem
  have qb := asMethodImplements
  have qc := asKindP
  have qd := asKindE
  have qe := asElemP
  have qf := asImplE
  have qg := asNoAsF
  have qh := asUnwrapF
  have qi := asMethodUnwrap
  have htl : t.block < w.heap.size := by
    rcases Nat.lt_or_ge t.block w.heap.size with h | h
    · exact h
    · simp [World.cell?, Array.getElem?_eq_none h] at ht0
  have hgl : 0 < w.heap.size := by
    rcases Nat.lt_or_ge 0 w.heap.size with h | h
    · exact h
    · simp [World.cell?, Array.getElem?_eq_none h] at hg
  have b1 : Below w.heap.size w (A1 w t) := (Below.refl _ _).alloc (Nat.le_refl _) _
  have b2 : Below w.heap.size w (A2 w t) := b1.alloc (by rw [World.size_alloc]; omega) _
  have b3 : Below w.heap.size w (A3 w t) := b2.alloc b2.size _
  have b4 : Below w.heap.size w (A4 w t k) := b3.alloc b3.size _
  have hg2 := (b2.cell (p := ⟨0, 0, none⟩) hgl).trans hg
  have hb0 := (b3.cell (p := ⟨b, 0, none⟩) hbl).trans h0
  have hb1 := (b3.cell (p := ⟨b, 1, none⟩) hbl).trans h1
  have n8 := asIsNilP ⟨w.heap.size, 0, none⟩ t (A2 w t) (by rw [World.cell?_alloc_lt _ _ ⟨w.heap.size, 0, none⟩ (by simp)]; simp)
  have el := asElemVP ⟨w.heap.size, 0, none⟩ t (A3 w t) (by rw [World.cell?_alloc_lt _ _ ⟨w.heap.size, 0, none⟩ (by simp; omega), World.cell?_alloc_lt _ _ ⟨w.heap.size, 0, none⟩ (by simp)]; simp)
  have st := asSetE t ⟨w.heap.size + 1 + 1 + 1, 0, none⟩ k old (A4 w t k) (by rw [World.cell?_alloc_at _ _ _ _ (by simp)]; rfl) ((b4.cell htl).trans ht0) ((b4.frozen htl).trans hf0)
  clear hc hbl htl hgl b1 b2 b3 b4 h0 h1
  go_enter Tryd.func42, Tryd.ntmps42
  go_wp2
  refine wp_loop_rounds 2 ?_
  rw [rounds_succ]
  go_wp2
  rw [rounds_succ]
  go_wp2
  go_ret
  exact ⟨rfl, rfl⟩
#print axioms as_fault
end Go.Proofs.YtdmopnmifdjcnaaDoor
