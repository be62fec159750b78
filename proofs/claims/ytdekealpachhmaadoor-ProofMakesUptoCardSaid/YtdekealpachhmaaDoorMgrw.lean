/- errors.As at the target *api.Errno: an api.Fault of an api.Errno; an api.Errno itself; nil. num of laws 7 and 8: an error's number, by errors.As. Law 8: sure by its contract; what a made proof shows. Law 8: grown by its contract. -/
import Derived.Test.YtdekealpachhmaaDoorProg
import Derived.Test.YtdekealpachhmaaDoorMem
import Derived.LaidEql
import Derived.Stop.Asserts
import Derived.RowKitTokens
import Derived.Lib.Hide
import Derived.Test.YtdekealpachhmaaDoorFault
import Derived.RangeFuncBox
import Derived.Test.YtdekealpachhmaaDoorMver

namespace Go.Proofs.YtdekealpachhmaaDoor
open Go Go.RowKit Go.Isth Go.Extern.Stop Go.Stop Go.Extern
abbrev TH (t : TypeId) : Value := .pointer (some ⟨2, t, none⟩)
abbrev VP (a : Addr) : Value := .agg #[TH 129, .pointer (some a), .int .u64 150]

theorem as_nil (t : Value) (w : World) : Calls Tryd.prog 62 #[.nilIface, t] w fun e w' => e = .returned (.bool false) ∧ w' = w := by
  go_enter Tryd.func62, Tryd.ntmps62
  go_wp2
  go_ret
  exact ⟨rfl, rfl⟩

theorem asValueOfP (t : Addr) (w : World) : (ReflectliteValue.unpack (.iface 129 (.pointer (some t)))).run Tryd.prog w = .ok (VP ⟨w.heap.size, 0, none⟩) (w.alloc (.cells #[.pointer (some t)] 129)) := by kernel_rfl
theorem asTypeP (a : Addr) (w : World) : (ReflectliteValue.methodAny (ReflectliteValue.valueError "reflectlite.Value.Type" 0) (fun t _ _ _ => ReflectliteType.toType t) #[VP a]).run Tryd.prog w = .ok (.iface 194 (.agg #[TH 129])) w := by kernel_rfl
theorem asMethodKind (h : Value) (w : World) : (Go.method 334 194 (.agg #[h]) "Kind").run Tryd.prog w = .ok (119, h) w := by kernel_rfl
theorem asKindP (w : World) : ((ReflectliteType.abiMethod fun t => (fun a : Nat => Value.int IntKind.u8 (a : Int)) <$> Rtype.kind t) #[TH 129]).run Tryd.prog w = .ok (.int .u8 22) w := by kernel_rfl
theorem asKindE (w : World) : ((ReflectliteType.abiMethod fun t => (fun a : Nat => Value.int IntKind.u8 (a : Int)) <$> Rtype.kind t) #[TH 119]).run Tryd.prog w = .ok (.int .u8 2) w := by kernel_rfl
theorem asRlm (z : Sem Value) (f : TypeId → Addr → Nat → Nat → Sem Value) (v : Value) :
    ReflectliteValue.method z f #[v] = (do match ← ReflectliteValue.parts v with | none => z | some (t, a, fl) => f t a fl (fl % 32)) := rfl
theorem asPartsP (a : Addr) (w : World) : (ReflectliteValue.parts (VP a)).run Tryd.prog w = .ok (some (129, a, 150)) w := by kernel_rfl
theorem asIsNilP (a p : Addr) (W : World) (ha : W.cell? a = some (.pointer (some p))) :
    (ReflectliteValue.method (ReflectliteValue.valueError "reflectlite.Value.IsNil" 0) ReflectliteValue.isNil #[VP a]).run Tryd.prog W = .ok (.bool false) W := by
  rw [asRlm]
  simp only [Sem.run_bind, asPartsP, Result.andThen]
  simp [ReflectliteValue.isNil, loadVar, isAgg, underlying, Tryd.underlying129, ha, Result.andThen]
theorem asMethodElem (h : Value) (w : World) : (Go.method 334 194 (.agg #[h]) "Elem").run Tryd.prog w = .ok (131, .agg #[h]) w := by kernel_rfl
theorem asMethodImplements (h : Value) (w : World) : (Go.method 334 194 (.agg #[h]) "Implements").run Tryd.prog w = .ok (132, .agg #[h]) w := by kernel_rfl
theorem asMethodAssignable (h : Value) (w : World) : (Go.method 334 194 (.agg #[h]) "AssignableTo").run Tryd.prog w = .ok (129, .agg #[h]) w := by kernel_rfl
theorem asElemP (w : World) : (ReflectliteType.method ReflectliteType.elem #[.agg #[TH 129]]).run Tryd.prog w = .ok (.iface 194 (.agg #[TH 119])) w := by kernel_rfl
theorem asImplE (w : World) : (ReflectliteType.relation "Implements" ReflectliteType.implements_ #[.agg #[TH 119], .iface 194 (.agg #[TH 34])]).run Tryd.prog w = .ok (.bool true) w := by kernel_rfl
theorem asTypeOfF (v : Value) (w : World) : (ReflectliteType.typeOf #[.iface 147 v]).run Tryd.prog w = .ok (.iface 194 (.agg #[TH 147])) w := by kernel_rfl
theorem asTypeOfE (v : Value) (w : World) : (ReflectliteType.typeOf #[.iface 119 v]).run Tryd.prog w = .ok (.iface 194 (.agg #[TH 119])) w := by kernel_rfl
theorem asAssignE (w : World) : (ReflectliteType.relation "AssignableTo" ReflectliteType.assignableTo #[.agg #[TH 119], .iface 194 (.agg #[TH 119])]).run Tryd.prog w = .ok (.bool true) w := by kernel_rfl
theorem asAssignF (w : World) : (ReflectliteType.relation "AssignableTo" ReflectliteType.assignableTo #[.agg #[TH 147], .iface 194 (.agg #[TH 119])]).run Tryd.prog w = .ok (.bool false) w := by kernel_rfl
theorem asValueOfE (k : Int) (w : World) : (ReflectliteValue.unpack (.iface 119 (.int .i64 k))).run Tryd.prog w = .ok (.agg #[TH 119, .pointer (some ⟨w.heap.size, 0, none⟩), .int .u64 130]) (w.alloc (.cells #[.int .i64 k] 119)) := by kernel_rfl
theorem asElemOfP (w : World) : (Rtype.elem? 129).run Tryd.prog w = .ok (some 119) w := by kernel_rfl
theorem asMkE (p : Addr) (w : World) : (ReflectliteValue.mk 119 p ReflectliteValue.flagAddr).run Tryd.prog w = .ok (.agg #[TH 119, .pointer (some p), .int .u64 386]) w := by kernel_rfl
theorem asElemVP (a p : Addr) (W : World) (ha : W.cell? a = some (.pointer (some p))) :
    (ReflectliteValue.method (ReflectliteValue.valueError "reflectlite.Value.Elem" 0) ReflectliteValue.elem #[VP a]).run Tryd.prog W = .ok (.agg #[TH 119, .pointer (some p), .int .u64 386]) W := by
  rw [asRlm]
  simp only [Sem.run_bind, asPartsP, Result.andThen]
  simp [ReflectliteValue.elem, loadVar, isAgg, underlying, Tryd.underlying129, ha, Result.andThen, asElemOfP, asMkE]
theorem asRls (v x : Value) : ReflectliteValue.set #[v, x] = (do
    let (some (dst, a, fl), some (src, b, _)) := (← ReflectliteValue.parts v, ← ReflectliteValue.parts x)
      | unsupported (.noEntry "extern/(internal/reflectlite.Value).Set.zeroValue")
    if fl / ReflectliteValue.flagAddr % 2 == 0 then unsupported (.noEntry "extern/(internal/reflectlite.Value).Set.unaddressable")
    let val ← loadVar src b
    if ← Rtype.directlyAssignable dst src then storeVar dst a val
    else if ← Rtype.implements dst src then
      if (← Rtype.kind src) == 20 then
        match val with
        | .nilIface => unsupported (.noEntry "extern/reflectlite: a nil value of one interface type handed on as a value of another")
        | _ => storeVar dst a val
      else storeVar dst a (.iface src val)
    else panicString ("reflectlite.Set: value of type " ++ (← Rtype.spelt src) ++ " is not assignable to type " ++ (← Rtype.spelt dst))
    pure (.tuple #[])) := rfl
theorem asPartsEa (a : Addr) (w : World) : (ReflectliteValue.parts (.agg #[TH 119, .pointer (some a), .int .u64 386])).run Tryd.prog w = .ok (some (119, a, 386)) w := by kernel_rfl
theorem asPartsE (a : Addr) (w : World) : (ReflectliteValue.parts (.agg #[TH 119, .pointer (some a), .int .u64 130])).run Tryd.prog w = .ok (some (119, a, 130)) w := by kernel_rfl
theorem asDirectE (w : World) : (Rtype.directlyAssignable 119 119).run Tryd.prog w = .ok true w := by kernel_rfl
theorem asSizeE (w : World) : (sizeOf 119).run Tryd.prog w = .ok 1 w := by kernel_rfl
theorem asSetE (ta b : Addr) (k : Int) (old : Value) (W : World) (hb : W.cell? b = some (.int .i64 k)) (ht : W.cell? ta = some old) (hf : W.frozen? ta = false) :
    (ReflectliteValue.set #[.agg #[TH 119, .pointer (some ta), .int .u64 386], .agg #[TH 119, .pointer (some b), .int .u64 130]]).run Tryd.prog W = .ok (.tuple #[]) (W.setCell ta (.int .i64 k)) := by
  rw [asRls]
  simp only [Sem.run_bind, asPartsEa, asPartsE, Result.andThen]
  simp [ReflectliteValue.flagAddr, loadVar, isAgg, underlying, Tryd.underlying119, hb, Result.andThen, asDirectE, storeVar, Value.cells, storeCells, Addr.add]
  rw [run_store Tryd.prog W ta _ _ (by rfl)]
  simp [ht, hf]

theorem asNoAsF (v : Value) (xT : TypeId) (w : World) : (Instr.typeAssert (.iface 147 v) xT 199 true).run Tryd.prog w = .ok (.tuple #[.nilIface, .bool false]) w := run_typeAssert_lacksB Tryd.underlying199 (by kernel_rfl) (by kernel_rfl) v xT w
theorem asUnwrapF (v : Value) (xT : TypeId) (w : World) : (Instr.typeAssert (.iface 147 v) xT 202 true).run Tryd.prog w = .ok (.tuple #[.iface 147 v, .bool true]) w := run_typeAssert_hasB Tryd.underlying202 (by kernel_rfl) v xT w
theorem asMethodUnwrap (v : Value) (w : World) : (Go.method 334 147 v "Unwrap").run Tryd.prog w = .ok (124, v) w := by kernel_rfl

abbrev V3 (w : World) : Array Value := #[TH 129, .pointer (some ⟨w.heap.size, 0, none⟩), .int .u64 150]
abbrev A1 (w : World) (t : Addr) : World := w.alloc (.cells #[.pointer (some t)] 129)
abbrev A2 (w : World) (t : Addr) : World := (A1 w t).alloc (.cells (V3 w) 172)
abbrev A3 (w : World) (t : Addr) : World := (A2 w t).alloc (.cells (V3 w) 172)
abbrev A4 (w : World) (t : Addr) (k : Int) : World := (A3 w t).alloc (.cells #[.int .i64 k] 119)

set_option maxHeartbeats 4000000 in
theorem as_fault (b : Nat) (s : ByteArray) (k : Int) (t : Addr) (old : Value) (w : World) (hc : w.heap[b]? = some (.cells #[.string s, .iface 119 (.int .i64 k)] 149 (0, 0)))
    (hg : w.cell? ⟨0, 0, none⟩ = some (.iface 194 (.agg #[TH 34]))) (ht0 : w.cell? t = some old) (hf0 : w.frozen? t = false) :
    Calls Tryd.prog 62 #[.iface 147 (.pointer (some ⟨b, 0, none⟩)), .iface 129 (.pointer (some t))] w fun ev w' => ev = .returned (.bool true) ∧ w' = (A4 w t k).setCell t (.int .i64 k) := by
  have h0 : w.cell? ⟨b, 0, none⟩ = some (.string s) := cell_of_row w b 0 _ _ _ hc
  have h1 : w.cell? ⟨b, 1, none⟩ = some (.iface 119 (.int .i64 k)) := cell_of_row w b 1 _ _ _ hc
  have hbl : b < w.heap.size := (Array.getElem?_eq_some_iff.1 hc).1
  have hV := @run_callFunc_extern Tryd.prog 92 _ (fun args => ReflectliteValue.unpack (args.getD 0 (.tuple #[]))) Tryd.func92 (by kernel_rfl) (by kernel_rfl) (by kernel_rfl) (by kernel_rfl)
  have hT := @run_callFunc_extern Tryd.prog 93 _ (ReflectliteValue.methodAny (ReflectliteValue.valueError "reflectlite.Value.Type" 0) (fun t _ _ _ => ReflectliteType.toType t)) Tryd.func93 (by kernel_rfl) (by kernel_rfl) (by kernel_rfl) (by kernel_rfl)
  have hI := @run_callFunc_extern Tryd.prog 94 _ (ReflectliteValue.method (ReflectliteValue.valueError "reflectlite.Value.IsNil" 0) ReflectliteValue.isNil) Tryd.func94 (by kernel_rfl) (by kernel_rfl) (by kernel_rfl) (by kernel_rfl)
  have hK := @run_callFunc_extern Tryd.prog 119 _ (ReflectliteType.abiMethod fun t => do pure (.int .u8 (← Rtype.kind t))) Tryd.func119 (by kernel_rfl) (by kernel_rfl) (by kernel_rfl) (by kernel_rfl)
  have hE := @run_callFunc_extern Tryd.prog 131 _ (ReflectliteType.method ReflectliteType.elem) Tryd.func131 (by kernel_rfl) (by kernel_rfl) (by kernel_rfl) (by kernel_rfl)
  have hM := @run_callFunc_extern Tryd.prog 132 _ (ReflectliteType.relation "Implements" ReflectliteType.implements_) Tryd.func132 (by kernel_rfl) (by kernel_rfl) (by kernel_rfl) (by kernel_rfl)
  have hO := @run_callFunc_extern Tryd.prog 102 _ ReflectliteType.typeOf Tryd.func102 (by kernel_rfl) (by kernel_rfl) (by kernel_rfl) (by kernel_rfl)
  have hA := @run_callFunc_extern Tryd.prog 129 _ (ReflectliteType.relation "AssignableTo" ReflectliteType.assignableTo) Tryd.func129 (by kernel_rfl) (by kernel_rfl) (by kernel_rfl) (by kernel_rfl)
  have hL := @run_callFunc_extern Tryd.prog 103 _ (ReflectliteValue.method (ReflectliteValue.valueError "reflectlite.Value.Elem" 0) ReflectliteValue.elem) Tryd.func103 (by kernel_rfl) (by kernel_rfl) (by kernel_rfl) (by kernel_rfl)
  have hS := @run_callFunc_extern Tryd.prog 104 _ ReflectliteValue.set Tryd.func104 (by kernel_rfl) (by kernel_rfl) (by kernel_rfl) (by kernel_rfl)
  have q1 := asTypeOfF
  have q2 := asTypeOfE
  have q3 := asMethodAssignable
  have q4 := asAssignE
  have q5 := asAssignF
  have q6 := asValueOfE k
  have q7 := asValueOfP
  have q8 := asTypeP
  have q9 := asMethodKind
  have qa := asMethodElem
  have qb := asMethodImplements
  have qc := asKindP
  have qd := asKindE
  have qe := asElemP
  have qf := asImplE
  have qg := asNoAsF
  have qh := asUnwrapF
  have qi := asMethodUnwrap
  have htl : t.block < w.heap.size := by
    rcases Nat.lt_or_ge t.block w.heap.size with h | h
    · exact h
    · simp [World.cell?, Array.getElem?_eq_none h] at ht0
  have hgl : 0 < w.heap.size := by
    rcases Nat.lt_or_ge 0 w.heap.size with h | h
    · exact h
    · simp [World.cell?, Array.getElem?_eq_none h] at hg
  have b1 : Below w.heap.size w (A1 w t) := (Below.refl _ _).alloc (Nat.le_refl _) _
  have b2 : Below w.heap.size w (A2 w t) := b1.alloc (by rw [World.size_alloc]; omega) _
  have b3 : Below w.heap.size w (A3 w t) := b2.alloc b2.size _
  have b4 : Below w.heap.size w (A4 w t k) := b3.alloc b3.size _
  have hg2 := (b2.cell (p := ⟨0, 0, none⟩) hgl).trans hg
  have hb0 := (b3.cell (p := ⟨b, 0, none⟩) hbl).trans h0
  have hb1 := (b3.cell (p := ⟨b, 1, none⟩) hbl).trans h1
  have n8 := asIsNilP ⟨w.heap.size, 0, none⟩ t (A2 w t) (by rw [World.cell?_alloc_lt _ _ ⟨w.heap.size, 0, none⟩ (by simp)]; simp)
  have el := asElemVP ⟨w.heap.size, 0, none⟩ t (A3 w t) (by rw [World.cell?_alloc_lt _ _ ⟨w.heap.size, 0, none⟩ (by simp; omega), World.cell?_alloc_lt _ _ ⟨w.heap.size, 0, none⟩ (by simp)]; simp)
  have st := asSetE t ⟨w.heap.size + 1 + 1 + 1, 0, none⟩ k old (A4 w t k) (by rw [World.cell?_alloc_at _ _ _ _ (by simp)]; rfl) ((b4.cell htl).trans ht0) ((b4.frozen htl).trans hf0)
  clear hc hbl htl hgl b1 b2 b3 b4 h0 h1
  go_enter Tryd.func62, Tryd.ntmps62
  go_wp2
  refine wp_loop_rounds 2 ?_
  rw [rounds_succ]
  go_wp2
  rw [rounds_succ]
  go_wp2
  go_ret
  exact ⟨rfl, rfl⟩
#print axioms as_fault
end Go.Proofs.YtdekealpachhmaaDoor

namespace Go.Proofs.YtdekealpachhmaaDoor
open Go Go.RowKit Go.Isth Go.Extern.Stop Go.Stop Go.Extern

/-- The variable errors.errorType as it is laid. -/
def TypeLaid (w : World) : Prop := w.cell? ⟨0, 0, none⟩ = some (.iface 194 (.agg #[TH 34]))
theorem TypeLaid.lt {w : World} (h : TypeLaid w) : 0 < w.heap.size := World.block_lt_of_cell? w _ h
theorem TypeLaid.below {w w' : World} (h : TypeLaid w) {B : Nat} (hb : Below B w w') (hB : 0 < B) : TypeLaid w' := (hb.cell (p := ⟨0, 0, none⟩) hB).trans h

theorem as_new (b : Nat) (s : ByteArray) (k : Int) (w : World) (hc : w.heap[b]? = some (.cells #[.string s, .iface 119 (.int .i64 k)] 149 (0, 0))) (hg : TypeLaid w) :
    Calls Tryd.prog 62 #[.iface 147 (.pointer (some ⟨b, 0, none⟩)), .iface 129 (.pointer (some ⟨w.heap.size, 0, none⟩))] (w.alloc (.cells #[.int .i64 0] 119)) fun ev w' => ev = .returned (.bool true) ∧ w'.cell? ⟨w.heap.size, 0, none⟩ = some (.int .i64 k) ∧ Below w.heap.size w w' := by
  have hb1 : Below w.heap.size w (w.alloc (.cells #[.int .i64 0] 119)) := (Below.refl _ _).alloc (Nat.le_refl _) _
  refine (as_fault b s k ⟨w.heap.size, 0, none⟩ (.int .i64 0) (w.alloc (.cells #[.int .i64 0] 119)) ((hb1.block b (Array.getElem?_eq_some_iff.1 hc).1).trans hc) (hg.below hb1 hg.lt) (by simp) (by simp)).mono ?_
  rintro e w2 ⟨rfl, rfl⟩
  have hx : Boxed (w.alloc (.cells #[.int .i64 0] 119)) w.heap.size 119 (.int .i64 0) := Boxed.new _ _ _
  generalize w.alloc (.cells #[.int .i64 0] 119) = w1 at *
  have b1 : Below w1.heap.size w1 (A1 w1 ⟨w.heap.size, 0, none⟩) := (Below.refl _ _).alloc (Nat.le_refl _) _
  have b2 : Below w1.heap.size w1 (A2 w1 ⟨w.heap.size, 0, none⟩) := b1.alloc b1.size _
  have b3 : Below w1.heap.size w1 (A3 w1 ⟨w.heap.size, 0, none⟩) := b2.alloc b2.size _
  have b4 : Below w1.heap.size w1 (A4 w1 ⟨w.heap.size, 0, none⟩ k) := b3.alloc b3.size _
  have hy : Boxed (A4 w1 ⟨w.heap.size, 0, none⟩ k) w.heap.size 119 (.int .i64 0) := (b4.block _ hx.lt).trans hx
  exact ⟨rfl, (hy.set (.int .i64 k)).cell, (hb1.trans (b4.mono hb1.size)).setCell (p := ⟨w.heap.size, 0, none⟩) (Nat.le_refl _) _⟩

theorem num08_nil (w : World) : Calls Tryd.prog 17 #[.nilIface] w fun e w' => e = .returned (.int .i64 0) ∧ Below w.heap.size w w' := by
  go_enter Tryd.func17, Tryd.ntmps17
  go_wp2
  go_ret
  exact ⟨rfl, (Below.refl _ _).alloc (Nat.le_refl _) _⟩
theorem num08_any (v : Value) (k : Int) (w : World) (h : FaultIs w v k) (hg : TypeLaid w) : Calls Tryd.prog 17 #[v] w fun e w' => e = .returned (.int .i64 k) ∧ Below w.heap.size w w' := by
  obtain ⟨b, s, rfl, hc⟩ := h
  have hcall := as_new b s k w hc hg
  clear hc hg
  go_enter Tryd.func17, Tryd.ntmps17
  go_wp2_with fail
  refine hcall.mono ?_
  rintro e w2 ⟨rfl, hcell, hb⟩
  have HB := Lib.hid hb
  clear hcall hb
  go_wp2
  go_ret
  exact ⟨rfl, HB.out⟩
theorem num07_nil (w : World) : Calls Tryd.prog 36 #[.nilIface] w fun e w' => e = .returned (.int .i64 0) ∧ Below w.heap.size w w' := by
  go_enter Tryd.func36, Tryd.ntmps36
  go_wp2
  go_ret
  exact ⟨rfl, (Below.refl _ _).alloc (Nat.le_refl _) _⟩
theorem num07_any (v : Value) (k : Int) (w : World) (h : FaultIs w v k) (hg : TypeLaid w) : Calls Tryd.prog 36 #[v] w fun e w' => e = .returned (.int .i64 k) ∧ Below w.heap.size w w' := by
  obtain ⟨b, s, rfl, hc⟩ := h
  have hcall := as_new b s k w hc hg
  clear hc hg
  go_enter Tryd.func36, Tryd.ntmps36
  go_wp2_with fail
  refine hcall.mono ?_
  rintro e w2 ⟨rfl, hcell, hb⟩
  have HB := Lib.hid hb
  clear hcall hb
  go_wp2
  go_ret
  exact ⟨rfl, HB.out⟩
end Go.Proofs.YtdekealpachhmaaDoor

namespace Go.Isth
open Go Go.Op
theorem path_many : ∀ (t : Av) (i : Nat), ∀ s ∈ t.path i, 1 ≤ s.many ∧ s.many ≤ t.many
  | .leaf _ _, _, s, h => by cases h
  | .node a b, i, s, h => by
    have ha := a.many_pos
    have hb := b.many_pos
    simp only [Av.many]
    rw [Av.path] at h
    split at h
    · rcases List.mem_append.1 h with h | h
      · have := path_many a i s h; omega
      · obtain rfl := List.mem_singleton.1 h; simp only; omega
    · rcases List.mem_append.1 h with h | h
      · have := path_many b _ s h; omega
      · obtain rfl := List.mem_singleton.1 h; simp only; omega
theorem showG_made : ∀ (l : List StepV) (x : List UInt8 × Nat × Nat), (∀ s ∈ l, 1 ≤ s.many ∧ s.many ≤ 4294967296) → showG (l.map toI) x = some (l.foldl upStep x)
  | [], x, _ => rfl
  | s :: l, x, h => by
    have h1 := h s (by simp)
    rw [List.map_cons, showG, if_pos (by unfold okMany toI; simp only; omega), List.foldl_cons, ← showG_made l _ (fun y hy => h y (by simp [hy]))]
    have e : toV (toI s) = s := by unfold toV toI; simp
    rw [e]
/-- What a made proof shows: the root, how many keys, its place. -/
theorem showF_made (t : Av) (i : Nat) (hi : i < t.many) (hl : (t.path i).length ≤ 64) (hm : t.many ≤ 4294967296) : showF (madeP t i) = some (t.sum, t.many, i) := by
  unfold showF madeP
  rw [if_neg (by simp only [List.length_map]; omega)]
  simp only
  rw [showG_made _ _ (fun s hs => by have := path_many t i s hs; omega), path_up t i hi]
end Go.Isth
namespace Go.Proofs.YtdekealpachhmaaDoor
open Go Go.RowKit Go.Isth

theorem madeP_steps (t : Av) (i : Nat) : ∀ s ∈ (madeP t i).steps, s.other.length = 32 := by
  intro s hs
  obtain ⟨v, hv, rfl⟩ := List.mem_map.1 hs
  exact path_other t i v hv
set_option maxRecDepth 100000 in
set_option maxHeartbeats 2000000 in
theorem sure08_any (w : World) (ht : TabLaid w) (hy : TypeLaid w) : Calls Tryd.prog 20 #[] w fun e w' => e = .returned (.bool true) ∧ Below w.heap.size w w' := by
  have HT := Lib.hid (And.intro ht hy)
  clear ht hy
  go_enter Tryd.func20, Tryd.ntmps20
  go_wp2_with fail
  refine (set_any none (.pointer none) [97] [49] w rfl (by decide) (by decide) (by decide) HT.out.1).mono ?_
  rintro e w1 ⟨g1, rfl, h1, hb1⟩
  have H1 := Lib.hid (And.intro h1 hb1)
  clear h1 hb1
  go_wp2_with fail
  refine (set_any (some (setO [97] [49] none)) (Ptr g1) [99] [50] w1 ⟨g1, rfl, H1.out.1⟩ (by decide) (by decide) (by decide) (HT.out.1.below H1.out.2 HT.out.1.lt)).mono ?_
  rintro e w2 ⟨g, rfl, h2, hb2⟩
  obtain ⟨t, htt⟩ : ∃ t, t = setO [99] [50] (some (setO [97] [49] none)) := ⟨_, rfl⟩
  rw [← htt] at h2
  have hq : t.many = 2 ∧ t.get [97] = some [49] ∧ t.get [98] = none ∧ t.find [97] = 0 ∧ t.find [98] = 1 ∧ t.at_ 0 = ([97], [49]) ∧ t.at_ 1 = ([99], [50]) ∧ (t.path 0).length = 1 ∧ (t.path 1).length = 1 := by rw [htt]; decide
  have hs : Sorted t.pairs := by
    rw [htt]
    exact List.pairwise_cons.2 ⟨fun x hx => by obtain rfl := List.mem_singleton.1 hx; decide, List.pairwise_singleton _ _⟩
  have HX := Lib.hid h2
  have HW := Lib.hid (below_then H1.out.2 H1.out.2.size hb2)
  have HF := Lib.hid (And.intro hs hq)
  clear h2 hb2 hs hq htt
  go_wp2_with fail
  refine (exist_yes t g [97] [49] w2 HX.out HF.out.1 HF.out.2.2.1 (by have := HF.out.2.1; omega)).mono ?_
  rintro e w3 ⟨csp, rfl, hp, hb3⟩
  rw [HF.out.2.2.2.2.1] at hp
  have HPP := Lib.hid hp
  have HX := Lib.hid (HX.out.below hb3)
  have HW := Lib.hid (below_then HW.out HW.out.size hb3)
  clear hp hb3
  obtain ⟨x2, hx2⟩ : ∃ n, n = w3.heap.size := ⟨_, rfl⟩
  go_wp2_with (refine wpList_store_blk rfl 32 (.tmp 2) _ rfl w3.heap.size csp rfl rfl 32 noPrf (heap_alloc_new w3 _) (by rw [HPP.out.len]; kernel_rfl) (by rw [HPP.out.len]; rfl) HPP.out.one ?_
               intro w4 hz hg
               have hbb : Below w3.heap.size w3 w4 := ((Below.refl _ _).alloc (Nat.le_refl _) _).grown hg (by simp) (fun q e => by injection e with e; omega)
               have HPP := Lib.hid (HPP.out.below hbb)
               have HX := Lib.hid (HX.out.below hbb)
               have HW := Lib.hid (below_then HW.out HW.out.size hbb)
               have HX2 := Lib.hid hz
               clear hz hg hbb)
  rw [← hx2] at HX2 ⊢
  clear hx2
  refine (none_yy t g [98] 1 _ HX.out HF.out.2.2.2.1 HF.out.2.2.2.2.2.1 (by have := HF.out.2.1; omega) (by have := HF.out.2.1; omega)).mono ?_
  rintro e w5 ⟨vl, vr, rfl, hsl, hsr, hb5⟩
  rw [show leftP t 1 = [madeP t 0] from rfl] at hsl
  rw [show rightP t 1 = [madeP t 1] from if_pos (by rw [HF.out.2.1]; decide)] at hsr
  have HLL := Lib.hid hsl.list
  have HRR := Lib.hid hsr.list
  rcases hsl with ⟨h, _⟩ | ⟨_, gl, _, _, rfl, _⟩
  · cases h
  rcases hsr with ⟨h, _⟩ | ⟨_, gr, _, _, rfl, _⟩
  · cases h
  have HPP := Lib.hid (HPP.out.below hb5)
  have HX := Lib.hid (HX.out.below hb5)
  have HX2 := Lib.hid (HX2.out.below hb5)
  have HW := Lib.hid (below_then HW.out HW.out.size hb5)
  clear hb5
  go_upto_region 5 with fail
  obtain ⟨w6, hw6⟩ : ∃ w6, w6 = w5.alloc (.cells #[.slice (some ⟨gl, 0, none⟩) 1 1, .slice (some ⟨gr, 0, none⟩) 1 1] 41) := ⟨_, rfl⟩
  obtain ⟨x4, hx4⟩ : ∃ n, n = w5.heap.size := ⟨_, rfl⟩
  have b6 : Below w5.heap.size w5 w6 := by rw [hw6]; exact (Below.refl _ _).alloc (Nat.le_refl _) _
  have z6 : Blk w6 x4 41 [.slice (some ⟨gl, 0, none⟩) 1 1, .slice (some ⟨gr, 0, none⟩) 1 1] := by rw [hw6, hx4]; exact Blk_new w5 [.slice (some ⟨gl, 0, none⟩) 1 1, .slice (some ⟨gr, 0, none⟩) 1 1] 41
  rw [← hw6, ← hx4]
  have HW := Lib.hid (below_then HW.out HW.out.size b6)
  have hX2 := HX2.out.below b6
  have hpl := HPP.out.len
  obtain ⟨csr, hcsr⟩ : ∃ cs, cs = t.sum.map B := ⟨_, rfl⟩
  have HTS : Hid (∀ w', Below w6.heap.size w6 w' → w'.rangeAt x2 0 csp ∧ w'.rangeAt x4 0 [.slice (some ⟨gl, 0, none⟩) 1 1, .slice (some ⟨gr, 0, none⟩) 1 1] ∧ w'.cell? ⟨x4, 0, none⟩ = some (.slice (some ⟨gl, 0, none⟩) 1 1) ∧ w'.cell? ⟨x4, 1, none⟩ = some (.slice (some ⟨gr, 0, none⟩) 1 1)) := Lib.hid fun w' h => ⟨blk_range (hX2.below h), blk_range (z6.below h), (z6.below h).cellD 0 _ rfl, (z6.below h).cellD 1 _ rfl⟩
  have LDA : Hid (∀ w : World, w.rangeAt x4 0 [.slice (some ⟨gl, 0, none⟩) 1 1, .slice (some ⟨gr, 0, none⟩) 1 1] → (loadVar 41 ⟨x4, 0, none⟩).run Tryd.prog w = .ok (.agg #[.slice (some ⟨gl, 0, none⟩) 1 1, .slice (some ⟨gr, 0, none⟩) 1 1]) w) := Lib.hid fun w h => run_load_agg (P := Tryd.prog) Tryd.underlying41 rfl (by kernel_rfl) w ⟨x4, 0, none⟩ [.slice (some ⟨gl, 0, none⟩) 1 1, .slice (some ⟨gr, 0, none⟩) 1 1] rfl (fun j u hj => by rw [add_plain]; exact h j u hj)
  have ip : (Tryd.prog.info? 32).map (·.size) = some csp.length := by rw [hpl]; kernel_rfl
  have up := Tryd.underlying32
  have hsm0 : showF (madeP t 0) = some (t.sum, 2, 0) := by
    have h := showF_made t 0 (by rw [HF.out.2.1]; decide) (by have := HF.out.2.2.2.2.2.2.2.2.1; omega) (by rw [HF.out.2.1]; decide)
    rw [HF.out.2.1] at h
    exact h
  have hsm1 : showF (madeP t 1) = some (t.sum, 2, 1) := by
    have h := showF_made t 1 (by rw [HF.out.2.1]; decide) (by have := HF.out.2.2.2.2.2.2.2.2.2; omega) (by rw [HF.out.2.1]; decide)
    rw [HF.out.2.1] at h
    exact h
  have hk0 : (madeP t 0).key = [97] ∧ (madeP t 0).val = [49] := by unfold madeP; rw [HF.out.2.2.2.2.2.2.1]; exact ⟨rfl, rfl⟩
  have hk1 : (madeP t 1).key = [99] ∧ (madeP t 1).val = [50] := by unfold madeP; rw [HF.out.2.2.2.2.2.2.2.1]; exact ⟨rfl, rfl⟩
  have HV := Lib.hid (And.intro (show verF t.sum [97] [49] (madeP t 0) = true by simp only [verF, hsm0, hk0]; simp) (And.intro (show verF t.sum [97] [50] (madeP t 0) = false by simp only [verF, hsm0, hk0]; simp) (And.intro hsm0 (And.intro hsm1 (And.intro (show Op.bytesLess (madeP t 0).key [98] = true by rw [hk0.1]; decide) (show Op.bytesLess [98] (madeP t 1).key = true by rw [hk1.1]; decide))))))
  have HQ := Lib.hid (And.intro (HLL.out.below b6) (And.intro (HRR.out.below b6) (show GoodPs ([madeP t 0] ++ [madeP t 1]) from fun p hp => by
    simp only [List.cons_append, List.nil_append, List.mem_cons, List.not_mem_nil, or_false] at hp
    rcases hp with rfl | rfl
    · exact ⟨by rw [hk0.1, hk0.2]; decide, madeP_steps t 0⟩
    · exact ⟨by rw [hk1.1, hk1.2]; decide, madeP_steps t 1⟩)))
  have HP := Lib.hid (And.intro ((HPP.out.below b6).mono (Nat.zero_le _)) (And.intro (show (madeP t 0).key.length ≤ 2000000 ∧ (madeP t 0).val.length ≤ 2000000 by rw [hk0.1, hk0.2]; decide) (madeP_steps t 0)))
  have HT := Lib.hid (And.intro (HX.out.below b6) (And.intro (show csr = (rootO (some t)).map B from hcsr) (And.intro (HT.out.1.below HW.out HT.out.1.lt) (HT.out.2.below HW.out HT.out.2.lt))))
  have HB : Hid (Below w6.heap.size w6 (w6.drewN 1)) := Lib.hid (refl_drewN w6 1)
  clear hw6 hx4 b6 z6 hX2 hpl hcsr hsm0 hsm1 hk0 hk1
  refine wp_region_held_drew (S := (fun w' => w'.rangeAt x2 0 csp ∧ w'.rangeAt x4 0 [.slice (some ⟨gl, 0, none⟩) 1 1, .slice (some ⟨gr, 0, none⟩) 1 1] ∧ w'.cell? ⟨x4, 0, none⟩ = some (.slice (some ⟨gl, 0, none⟩) 1 1) ∧ w'.cell? ⟨x4, 1, none⟩ = some (.slice (some ⟨gr, 0, none⟩) 1 1))) (by kernel_rfl) ?qs0 (fun hHeld => ?_)
  case qs0 => exact HTS.out _ HB.out
  refine held_take (i := 0) (v := ?q1v) rfl (by kernel_rfl) (by kernel_rfl) (by kernel_rfl) (fun _ _ _ h => h) (by rfl) ?q1y hHeld ?_
  case q1y => ((intro w _hSw; (try dsimp only at _hSw); go_simp); try (with_reducible rfl))
  try simp only [Act.put, List.setIfInBounds_toArray, List.set_cons_zero, List.set_cons_succ]
  refine held_take (i := 1) (v := ?q2v) rfl (by kernel_rfl) (by kernel_rfl) (by kernel_rfl) (fun _ _ _ h => h) (by rfl) ?q2y hHeld ?_
  case q2y => ((intro w _hSw; (try dsimp only at _hSw); go_simp); try (with_reducible rfl))
  try simp only [Act.put, List.setIfInBounds_toArray, List.set_cons_zero, List.set_cons_succ]
  refine held_take (i := 2) (v := ?q3v) rfl (by kernel_rfl) (by kernel_rfl) (by kernel_rfl) (fun _ _ _ h => h) (by rfl) ?q3y hHeld ?_
  case q3y => ((intro w _hSw; (try dsimp only at _hSw); go_simp); try (with_reducible rfl))
  try simp only [Act.put, List.setIfInBounds_toArray, List.set_cons_zero, List.set_cons_succ]
  refine held_take (i := 3) (v := ?q4v) rfl (by kernel_rfl) (by kernel_rfl) (by kernel_rfl) (fun _ _ _ h => h) (by rfl) ?q4y hHeld ?_
  case q4y => ((intro w _hSw; (try dsimp only at _hSw); go_simp); try (with_reducible rfl))
  try simp only [Act.put, List.setIfInBounds_toArray, List.set_cons_zero, List.set_cons_succ]
  refine held_take (i := 4) (v := ?q5v) rfl (by kernel_rfl) (by kernel_rfl) (by kernel_rfl) (fun _ _ _ h => h) (by rfl) ?q5y hHeld ?_
  case q5y => ((intro w _hSw; (try dsimp only at _hSw); go_simp); try (with_reducible rfl))
  try simp only [Act.put, List.setIfInBounds_toArray, List.set_cons_zero, List.set_cons_succ]
  refine held_take (i := 5) (v := ?q6v) rfl (by kernel_rfl) (by kernel_rfl) (by kernel_rfl) (fun _ _ _ h => h) (by rfl) ?q6y hHeld ?_
  case q6y => ((intro w _hSw; (try dsimp only at _hSw); go_simp); try (with_reducible rfl))
  try simp only [Act.put, List.setIfInBounds_toArray, List.set_cons_zero, List.set_cons_succ]
  refine held_take (i := 6) (v := ?q7v) rfl (by kernel_rfl) (by kernel_rfl) (by kernel_rfl) (fun _ _ _ h => h) (by rfl) ?q7y hHeld ?_
  case q7y => ((intro w _hSw; (try dsimp only at _hSw); go_simp); try (with_reducible rfl))
  try simp only [Act.put, List.setIfInBounds_toArray, List.set_cons_zero, List.set_cons_succ]
  refine held_take (i := 7) (v := ?q8v) rfl (by kernel_rfl) (by kernel_rfl) (by kernel_rfl) (fun _ _ _ h => h) (by rfl) ?q8y hHeld ?_
  case q8y => ((intro w _hSw; (try dsimp only at _hSw); go_simp); try (with_reducible rfl))
  try simp only [Act.put, List.setIfInBounds_toArray, List.set_cons_zero, List.set_cons_succ]
  refine held_row (i := 9) rfl (by kernel_rfl) (by kernel_rfl) (by kernel_rfl) _ _ rfl _ _ rfl ?q9C ?q9D (fun _ _ _ h => h) (by rfl) ?q9a ?q9b ?q9c ?q9d hHeld ?_
  case q9a => (intro w hSw; (try dsimp only at hSw); go_split_ands; assumption)
  case q9b => assumption
  case q9c => rfl
  case q9d => first | assumption | (simp only [*]; done)
  try simp only [Act.put, List.setIfInBounds_toArray, List.set_cons_zero, List.set_cons_succ]
  refine held_step (i := 8) rfl (by kernel_rfl) (by rfl) (fun K hK => ?_)
  go_simp
  refine (root_any (some t) (Ptr g) csr _ ⟨g, rfl, HT.out.1.below HB.out⟩ HT.out.2.1 (HT.out.2.2.1.below HB.out HT.out.2.2.1.lt)).mono ?_
  rintro e wc ⟨rfl, hb⟩
  have HB := Lib.hid (below_then HB.out HB.out.size hb)
  clear hb
  go_wp2_with fail
  have hHeld := HTS.out _ HB.out
  refine hK.out _ _ (HTS.out _ HB.out) ?_
  clear hK K
  try simp only [Act.put, List.setIfInBounds_toArray, List.set_cons_zero, List.set_cons_succ]
  refine held_step (i := 10) rfl (by kernel_rfl) (by rfl) (fun K hK => ?_)
  go_simp
  refine (verify_any t.sum csr [97] [49] (madeP t 0) csp _ t.sum_length HT.out.2.1 (HP.out.1.below HB.out) HP.out.2.1 HP.out.2.2 (HT.out.2.2.1.below HB.out HT.out.2.2.1.lt)).mono ?_
  rintro e wc ⟨v, rfl, hv, hb⟩
  rw [HV.out.1] at hv
  obtain rfl : v = .nilIface := hv
  have HB := Lib.hid (below_then HB.out HB.out.size hb)
  clear hb
  go_wp2_with fail
  have hHeld := HTS.out _ HB.out
  refine hK.out _ _ (HTS.out _ HB.out) ?_
  clear hK K
  try simp only [Act.put, List.setIfInBounds_toArray, List.set_cons_zero, List.set_cons_succ]
  refine held_take (i := 11) (v := ?q10v) rfl (by kernel_rfl) (by kernel_rfl) (by kernel_rfl) (fun _ _ _ h => h) (by rfl) ?q10y hHeld ?_
  case q10y => ((intro w _hSw; (try dsimp only at _hSw); go_simp); try (with_reducible rfl))
  try simp only [Act.put, List.setIfInBounds_toArray, List.set_cons_zero, List.set_cons_succ]
  refine held_take (i := 12) (v := ?q11v) rfl (by kernel_rfl) (by kernel_rfl) (by kernel_rfl) (fun _ _ _ h => h) (by rfl) ?q11y hHeld ?_
  case q11y => ((intro w _hSw; (try dsimp only at _hSw); go_simp); try (with_reducible rfl))
  try simp only [Act.put, List.setIfInBounds_toArray, List.set_cons_zero, List.set_cons_succ]
  refine held_take (i := 13) (v := ?q12v) rfl (by kernel_rfl) (by kernel_rfl) (by kernel_rfl) (fun _ _ _ h => h) (by rfl) ?q12y hHeld ?_
  case q12y => ((intro w _hSw; (try dsimp only at _hSw); go_simp); try (with_reducible rfl))
  try simp only [Act.put, List.setIfInBounds_toArray, List.set_cons_zero, List.set_cons_succ]
  refine held_take (i := 14) (v := ?q13v) rfl (by kernel_rfl) (by kernel_rfl) (by kernel_rfl) (fun _ _ _ h => h) (by rfl) ?q13y hHeld ?_
  case q13y => ((intro w _hSw; (try dsimp only at _hSw); go_simp); try (with_reducible rfl))
  try simp only [Act.put, List.setIfInBounds_toArray, List.set_cons_zero, List.set_cons_succ]
  refine held_row (i := 16) rfl (by kernel_rfl) (by kernel_rfl) (by kernel_rfl) _ _ rfl _ _ rfl ?q14C ?q14D (fun _ _ _ h => h) (by rfl) ?q14a ?q14b ?q14c ?q14d hHeld ?_
  case q14a => (intro w hSw; (try dsimp only at hSw); go_split_ands; assumption)
  case q14b => assumption
  case q14c => rfl
  case q14d => first | assumption | (simp only [*]; done)
  try simp only [Act.put, List.setIfInBounds_toArray, List.set_cons_zero, List.set_cons_succ]
  refine held_step (i := 15) rfl (by kernel_rfl) (by rfl) (fun K hK => ?_)
  go_simp
  refine (root_any (some t) (Ptr g) csr _ ⟨g, rfl, HT.out.1.below HB.out⟩ HT.out.2.1 (HT.out.2.2.1.below HB.out HT.out.2.2.1.lt)).mono ?_
  rintro e wc ⟨rfl, hb⟩
  have HB := Lib.hid (below_then HB.out HB.out.size hb)
  clear hb
  go_wp2_with fail
  have hHeld := HTS.out _ HB.out
  refine hK.out _ _ (HTS.out _ HB.out) ?_
  clear hK K
  try simp only [Act.put, List.setIfInBounds_toArray, List.set_cons_zero, List.set_cons_succ]
  refine held_step (i := 17) rfl (by kernel_rfl) (by rfl) (fun K hK => ?_)
  go_simp
  refine (verify_any t.sum csr [97] [50] (madeP t 0) csp _ t.sum_length HT.out.2.1 (HP.out.1.below HB.out) HP.out.2.1 HP.out.2.2 (HT.out.2.2.1.below HB.out HT.out.2.2.1.lt)).mono ?_
  rintro e wc ⟨v23, rfl, hv, hb⟩
  rw [HV.out.2.1] at hv
  have HF := Lib.hid (show FaultIs wc v23 23 from hv)
  have HB := Lib.hid (below_then HB.out HB.out.size hb)
  clear hb hv
  go_wp2_with fail
  have hHeld := HTS.out _ HB.out
  refine hK.out _ _ (HTS.out _ HB.out) ?_
  clear hK K
  try simp only [Act.put, List.setIfInBounds_toArray, List.set_cons_zero, List.set_cons_succ]
  refine held_step (i := 18) rfl (by kernel_rfl) (by rfl) (fun K hK => ?_)
  go_simp
  refine (num08_any v23 23 _ HF.out (HT.out.2.2.2.below HB.out HT.out.2.2.2.lt)).mono ?_
  rintro e wc ⟨rfl, hb⟩
  have HB := Lib.hid (below_then HB.out HB.out.size hb)
  clear hb
  go_wp2_with fail
  have hHeld := HTS.out _ HB.out
  refine hK.out _ _ (HTS.out _ HB.out) ?_
  clear hK K
  try simp only [Act.put, List.setIfInBounds_toArray, List.set_cons_zero, List.set_cons_succ]
  refine held_take (i := 19) (v := ?q15v) rfl (by kernel_rfl) (by kernel_rfl) (by kernel_rfl) (fun _ _ _ h => h) (by rfl) ?q15y hHeld ?_
  case q15y => ((intro w _hSw; (try dsimp only at _hSw); go_simp); try (with_reducible rfl))
  try simp only [Act.put, List.setIfInBounds_toArray, List.set_cons_zero, List.set_cons_succ]
  refine held_take (i := 20) (v := ?q16v) rfl (by kernel_rfl) (by kernel_rfl) (by kernel_rfl) (fun _ _ _ h => h) (by rfl) ?q16y hHeld ?_
  case q16y => ((intro w _hSw; (try dsimp only at _hSw); go_simp); try (with_reducible rfl))
  try simp only [Act.put, List.setIfInBounds_toArray, List.set_cons_zero, List.set_cons_succ]
  refine held_take (i := 21) (v := ?q17v) rfl (by kernel_rfl) (by kernel_rfl) (by kernel_rfl) (fun _ _ _ h => h) (by rfl) ?q17y hHeld ?_
  case q17y => ((intro w _hSw; (try dsimp only at _hSw); go_simp); try (with_reducible rfl))
  try simp only [Act.put, List.setIfInBounds_toArray, List.set_cons_zero, List.set_cons_succ]
  refine held_take (i := 22) (v := ?q18v) rfl (by kernel_rfl) (by kernel_rfl) (by kernel_rfl) (fun _ _ _ h => h) (by rfl) ?q18y hHeld ?_
  case q18y => ((intro w _hSw; (try dsimp only at _hSw); go_simp); try (with_reducible rfl))
  try simp only [Act.put, List.setIfInBounds_toArray, List.set_cons_zero, List.set_cons_succ]
  refine held_take (i := 24) (v := (.agg #[.slice (some ⟨gl, 0, none⟩) 1 1, .slice (some ⟨gr, 0, none⟩) 1 1])) rfl (by kernel_rfl) (by kernel_rfl) (by kernel_rfl) (fun _ _ _ h => h) (by rfl) ?q19y hHeld ?_
  case q19y => (intro w hSw; exact exec_ld (.tmp 4) rfl ⟨x4, 0, none⟩ _ rfl (LDA.out w hSw.2.1))
  try simp only [Act.put, List.setIfInBounds_toArray, List.set_cons_zero, List.set_cons_succ]
  refine held_step (i := 23) rfl (by kernel_rfl) (by rfl) (fun K hK => ?_)
  go_simp
  refine (root_any (some t) (Ptr g) csr _ ⟨g, rfl, HT.out.1.below HB.out⟩ HT.out.2.1 (HT.out.2.2.1.below HB.out HT.out.2.2.1.lt)).mono ?_
  rintro e wc ⟨rfl, hb⟩
  have HB := Lib.hid (below_then HB.out HB.out.size hb)
  clear hb
  go_wp2_with fail
  have hHeld := HTS.out _ HB.out
  refine hK.out _ _ (HTS.out _ HB.out) ?_
  clear hK K
  try simp only [Act.put, List.setIfInBounds_toArray, List.set_cons_zero, List.set_cons_succ]
  refine held_step (i := 25) rfl (by kernel_rfl) (by rfl) (fun K hK => ?_)
  go_simp
  refine (vnone_yy t.sum csr [98] _ _ (madeP t 0) (madeP t 1) 2 0 (by decide) _ t.sum_length HT.out.2.1 (HQ.out.1.below HB.out) (HQ.out.2.1.below HB.out) HQ.out.2.2 HV.out.2.2.1 HV.out.2.2.2.1 HV.out.2.2.2.2.1 HV.out.2.2.2.2.2 (HT.out.2.2.1.below HB.out HT.out.2.2.1.lt)).mono ?_
  rintro e wc ⟨rfl, hb⟩
  have HB := Lib.hid (below_then HB.out HB.out.size hb)
  clear hb
  go_wp2_with fail
  have hHeld := HTS.out _ HB.out
  refine hK.out _ _ (HTS.out _ HB.out) ?_
  clear hK K
  try simp only [Act.put, List.setIfInBounds_toArray, List.set_cons_zero, List.set_cons_succ]
  refine held_take (i := 26) (v := ?q20v) rfl (by kernel_rfl) (by kernel_rfl) (by kernel_rfl) (fun _ _ _ h => h) (by rfl) ?q20y hHeld ?_
  case q20y => ((intro w _hSw; (try dsimp only at _hSw); go_simp); try (with_reducible rfl))
  try simp only [Act.put, List.setIfInBounds_toArray, List.set_cons_zero, List.set_cons_succ]
  refine held_take (i := 27) (v := ?q21v) rfl (by kernel_rfl) (by kernel_rfl) (by kernel_rfl) (fun _ _ _ h => h) (by rfl) ?q21y hHeld ?_
  case q21y => ((intro w _hSw; (try dsimp only at _hSw); go_simp); try (with_reducible rfl))
  try simp only [Act.put, List.setIfInBounds_toArray, List.set_cons_zero, List.set_cons_succ]
  refine held_take (i := 28) (v := ?q22v) rfl (by kernel_rfl) (by kernel_rfl) (by kernel_rfl) (fun _ _ _ h => h) (by rfl) ?q22y hHeld ?_
  case q22y => ((intro w _hSw; (try dsimp only at _hSw); go_simp); try (with_reducible rfl))
  try simp only [Act.put, List.setIfInBounds_toArray, List.set_cons_zero, List.set_cons_succ]
  refine held_take (i := 29) (v := ?q23v) rfl (by kernel_rfl) (by kernel_rfl) (by kernel_rfl) (fun _ _ _ h => h) (by rfl) ?q23y hHeld ?_
  case q23y => ((intro w _hSw; (try dsimp only at _hSw); go_simp); try (with_reducible rfl))
  try simp only [Act.put, List.setIfInBounds_toArray, List.set_cons_zero, List.set_cons_succ]
  refine held_take (i := 30) (v := ?q24v) rfl (by kernel_rfl) (by kernel_rfl) (by kernel_rfl) (fun _ _ _ h => h) (by rfl) ?q24y hHeld ?_
  case q24y => ((intro w _hSw; (try dsimp only at _hSw); go_simp); try (with_reducible rfl))
  try simp only [Act.put, List.setIfInBounds_toArray, List.set_cons_zero, List.set_cons_succ]
  refine held_take (i := 31) (v := ?q25v) rfl (by kernel_rfl) (by kernel_rfl) (by kernel_rfl) (fun _ _ _ h => h) (by rfl) ?q25y hHeld ?_
  case q25y => ((intro w _hSw; (try dsimp only at _hSw); go_simp); try (with_reducible rfl))
  try simp only [Act.put, List.setIfInBounds_toArray, List.set_cons_zero, List.set_cons_succ]
  refine held_take (i := 32) (v := ?q26v) rfl (by kernel_rfl) (by kernel_rfl) (by kernel_rfl) (fun _ _ _ h => h) (by rfl) ?q26y hHeld ?_
  case q26y => ((intro w _hSw; (try dsimp only at _hSw); go_simp); try (with_reducible rfl))
  try simp only [Act.put, List.setIfInBounds_toArray, List.set_cons_zero, List.set_cons_succ]
  refine held_take (i := 33) (v := ?q27v) rfl (by kernel_rfl) (by kernel_rfl) (by kernel_rfl) (fun _ _ _ h => h) (by rfl) ?q27y hHeld ?_
  case q27y => ((intro w _hSw; (try dsimp only at _hSw); go_simp); try (with_reducible rfl))
  try simp only [Act.put, List.setIfInBounds_toArray, List.set_cons_zero, List.set_cons_succ]
  refine held_take (i := 34) (v := ?q28v) rfl (by kernel_rfl) (by kernel_rfl) (by kernel_rfl) (fun _ _ _ h => h) (by rfl) ?q28y hHeld ?_
  case q28y => ((intro w _hSw; (try dsimp only at _hSw); go_simp); try (with_reducible rfl))
  try simp only [Act.put, List.setIfInBounds_toArray, List.set_cons_zero, List.set_cons_succ]
  refine held_take (i := 35) (v := ?q29v) rfl (by kernel_rfl) (by kernel_rfl) (by kernel_rfl) (fun _ _ _ h => h) (by rfl) ?q29y hHeld ?_
  case q29y => ((intro w _hSw; (try dsimp only at _hSw); go_simp); try (with_reducible rfl))
  try simp only [Act.put, List.setIfInBounds_toArray, List.set_cons_zero, List.set_cons_succ]
  refine held_take (i := 36) (v := ?q30v) rfl (by kernel_rfl) (by kernel_rfl) (by kernel_rfl) (fun _ _ _ h => h) (by rfl) ?q30y hHeld ?_
  case q30y => ((intro w _hSw; (try dsimp only at _hSw); go_simp); try (with_reducible rfl))
  try simp only [Act.put, List.setIfInBounds_toArray, List.set_cons_zero, List.set_cons_succ]
  refine held_take (i := 37) (v := ?q31v) rfl (by kernel_rfl) (by kernel_rfl) (by kernel_rfl) (fun _ _ _ h => h) (by rfl) ?q31y hHeld ?_
  case q31y => ((intro w _hSw; (try dsimp only at _hSw); go_simp); try (with_reducible rfl))
  try simp only [Act.put, List.setIfInBounds_toArray, List.set_cons_zero, List.set_cons_succ]
  refine held_take (i := 38) (v := ?q32v) rfl (by kernel_rfl) (by kernel_rfl) (by kernel_rfl) (fun _ _ _ h => h) (by rfl) ?q32y hHeld ?_
  case q32y => ((intro w _hSw; (try dsimp only at _hSw); go_simp); try (with_reducible rfl))
  try simp only [Act.put, List.setIfInBounds_toArray, List.set_cons_zero, List.set_cons_succ]
  refine held_take (i := 39) (v := ?q33v) rfl (by kernel_rfl) (by kernel_rfl) (by kernel_rfl) (fun _ _ _ h => h) (by rfl) ?q33y hHeld ?_
  case q33y => ((intro w _hSw; (try dsimp only at _hSw); go_simp); try (with_reducible rfl))
  try simp only [Act.put, List.setIfInBounds_toArray, List.set_cons_zero, List.set_cons_succ]
  refine held_take (i := 40) (v := ?q34v) rfl (by kernel_rfl) (by kernel_rfl) (by kernel_rfl) (fun _ _ _ h => h) (by rfl) ?q34y hHeld ?_
  case q34y => ((intro w _hSw; (try dsimp only at _hSw); go_simp); try (with_reducible rfl))
  try simp only [Act.put, List.setIfInBounds_toArray, List.set_cons_zero]
  refine wpAnyH_done (by kernel_rfl) ?_ _
  go_wp2
  go_ret
  exact ⟨rfl, below_then HW.out HW.out.size HB.out⟩
end Go.Proofs.YtdekealpachhmaaDoor

namespace Go.Proofs.YtdekealpachhmaaDoor
open Go Go.RowKit Go.Isth

def stepS (t : Option Av) (p : Str × Str) : Option Av := some (setO p.1 p.2 t)
def grownS (l : List (Str × Str)) : Option Av := (l.take 40).foldl stepS none
theorem good_foldS : ∀ (l : List (Str × Str)) (t : Option Av), Isth.Good t → Isth.Good (l.foldl stepS t) ∧ manyO (l.foldl stepS t) ≤ manyO t + l.length
  | [], t, h => ⟨h, Nat.le_refl _⟩
  | a :: l, t, h => by
    have := good_foldS l (stepS t a) (good_set _ _ h)
    have h2 : manyO (stepS t a) ≤ manyO t + 1 := many_setO a.1 a.2 t
    simp only [List.foldl_cons, List.length_cons]
    exact ⟨this.1, by omega⟩
theorem small_foldS : ∀ (l : List (Str × Str)) (t : Option Av), Isth.Good t → SmallO t → (∀ a ∈ l, a.1.length ≤ 2000000 ∧ a.2.length ≤ 2000000) → SmallO (l.foldl stepS t)
  | [], t, _, h, _ => h
  | a :: l, t, hg, h, hl => by
    refine small_foldS l (stepS t a) (good_set _ _ hg) ?_ (fun x hx => hl x (by simp [hx]))
    have ha := hl a (by simp)
    cases t with
    | none =>
      intro p hp
      obtain rfl : p = (a.1, a.2) := by simpa [stepS, pairsO, setO, Av.pairs] using hp
      exact ha
    | some t =>
      intro p hp
      rcases ((set_pairs_mem t a.1 a.2 hg.2).2 p).1 hp with rfl | ⟨hp, _⟩
      · exact ha
      · exact h p hp
theorem grownS_facts (l : List (Str × Str)) (hl : ∀ a ∈ l, a.1.length ≤ 2000000 ∧ a.2.length ≤ 2000000) : Isth.Good (grownS l) ∧ manyO (grownS l) ≤ 40 ∧ SmallO (grownS l) := by
  have h := good_foldS (l.take 40) none trivial
  have h3 := List.length_take_le 40 l
  have h0 : manyO (none : Option Av) = 0 := rfl
  refine ⟨h.1, by have := h.2; unfold grownS; omega, ?_⟩
  exact small_foldS (l.take 40) none trivial (fun p hp => by cases hp) (fun a ha => hl a (List.mem_of_mem_take ha))
theorem take_nextP {l : List (Str × Str)} {k : Nat} {a : Str × Str} (h : l[k]? = some a) : l.take (k + 1) = l.take k ++ [a] := by
  rw [List.take_add_one, h]
  rfl
def GrownInvS (w : World) (xr : Nat) (l : List (Str × Str)) (v4 v6 : Value) (wr : World) : Prop :=
  ∃ (k : Nat) (t : Option Av) (v : Value) (cs : List Value), v4 = v ∧ v6 = .int .i64 (k : Nat) ∧ k ≤ l.length ∧ k ≤ 40 ∧ t = (l.take k).foldl stepS none ∧ TreeO wr t v ∧ RO wr t cs ∧ Blk wr xr 26 cs ∧ Blk wr w.heap.size 26 emptyC ∧ Below w.heap.size w wr
set_option maxRecDepth 100000 in
set_option maxHeartbeats 4000000 in
theorem grown08_any (A : Option Addr) (c : Nat) (l : List (Str × Str)) (w : World) (hc : l.length ≤ c) (hr : Rd w A (pairsC l)) (hl : ∀ a ∈ l, a.1.length ≤ 2000000 ∧ a.2.length ≤ 2000000) (hn : l.length ≤ 4611686018427387904) (ht : TabLaid w) :
    Calls Tryd.prog 11 #[.slice A l.length c] w fun e w' => ∃ v cs, e = .returned (.tuple #[v, .agg cs.toArray]) ∧ TreeO w' (grownS l) v ∧ RO w' (grownS l) cs ∧ Below w.heap.size w w' := by
  have HT := Lib.hid (And.intro hr (And.intro hl (And.intro hn (And.intro ht hc))))
  obtain ⟨w1, hw1⟩ : ∃ w1, w1 = w.alloc (.cells emptyC.toArray 26) := ⟨_, rfl⟩
  obtain ⟨w2, hw2⟩ : ∃ w2, w2 = w1.alloc (.cells emptyC.toArray 26) := ⟨_, rfl⟩
  have s1 : w1.heap.size = w.heap.size + 1 := by rw [hw1, World.size_alloc]
  have b1 : Below w.heap.size w w1 := by rw [hw1]; exact (Below.refl _ _).alloc (Nat.le_refl _) _
  have b2 : Below w.heap.size w w2 := by rw [hw2]; exact b1.alloc b1.size _
  have z1 : Blk w2 w.heap.size 26 emptyC := by rw [hw2, hw1]; exact (Blk_new w emptyC 26).alloc _
  have z2 : Blk w2 (w.heap.size + 1) 26 emptyC := by rw [← s1, hw2]; exact Blk_new w1 emptyC 26
  have H2 := Lib.hid (And.intro b2 (And.intro z1 z2))
  obtain ⟨xr, hxr⟩ : ∃ n, n = w.heap.size + 1 := ⟨_, rfl⟩
  go_enter Tryd.func11, Tryd.ntmps11
  clear hr hl hn ht hc
  go_wp2_with fail
  change Code.wp _ _ _ _ ((w.alloc (.cells emptyC.toArray 26)).alloc (.cells emptyC.toArray 26))
  rw [← hw1, ← hw2]
  have H3 := Lib.hid (And.intro z2 (And.intro z1 b2))
  have HXR := Lib.hid hxr
  rw [← hxr]
  clear hw1 hw2 s1 b1 b2 z1 z2 hxr
  go_loopw [4, 6] (fun v4 v6 wr => GrownInvS w xr l v4 v6 wr) (fun _ v6 _ => 40 - (intOf v6).toNat)
  case atStart => exact ⟨0, none, .pointer none, emptyC, rfl, rfl, Nat.zero_le _, Nat.zero_le _, rfl, rfl, rfl, by rw [HXR.out]; exact H3.out.1, H3.out.2.1, H3.out.2.2⟩
  case round =>
    obtain ⟨k, t, v, cs, rfl, rfl, hk, hk6, htf, htr, hro, hbx, hb3, hB⟩ := hrel
    have hgd := good_foldS (l.take k) none trivial
    rw [← htf] at hgd
    have hm60 : manyO t ≤ 40 := by have h2 := hgd.2; have h3 := List.length_take_le k l; have h0 : manyO (none : Option Av) = 0 := rfl; omega
    have HG := Lib.hid (And.intro hgd.1 hm60)
    have HR := Lib.hid (And.intro htr hro)
    have HBL := Lib.hid (And.intro hbx (And.intro hb3 (And.intro HXR.out hro.len)))
    have HW := Lib.hid hB
    have HTF := Lib.hid htf
    have hlcs := hro.len
    clear hgd hm60 htr hro hbx hb3 hB htf
    by_cases hkl : k < l.length
    · by_cases hk60 : k < 40
      · obtain ⟨ac, hac⟩ : ∃ ac, l[k]? = some ac := ⟨_, List.getElem?_eq_getElem hkl⟩
        have hla := HT.out.2.1 ac (List.mem_of_getElem? hac)
        obtain ⟨b, o, rfl, hcl⟩ := HT.out.1 (by have h := (pairsC_cells l k ac hac).1; have := (List.getElem?_eq_some_iff.1 h).1; omega)
        obtain ⟨q1, q2⟩ := pairsC_cells l k ac hac
        have e1 := cell_below (hcl _ _ q1) HW.out
        have e2 := cell_below (hcl _ _ q2) HW.out
        have hbw : b < w.heap.size := World.block_lt_of_cell? w _ (hcl _ _ q1)
        rw [← Nat.add_assoc] at e2
        have HAC := Lib.hid (And.intro hac hla)
        have hk1 : (k : Int) < (l.length : Int) := by omega
        have hk2 : (k : Int) < 40 := by omega
        clear hac hla hcl q1 q2
        have HD := Lib.hid (show stepS t ac = some (setO ac.1 ac.2 t) from rfl)
        have HTS : Hid (∀ w', Off wr xr w' → w'.cell? ⟨b, o + k * 2, none⟩ = some (S8 ac.1) ∧ w'.cell? ⟨b, o + k * 2 + 1, none⟩ = some (S8 ac.2)) := Lib.hid fun w' h => ⟨cell_off e1 h (by have := HBL.out.2.2.1; omega), cell_off e2 h (by have := HBL.out.2.2.1; omega)⟩
        have HB : Hid (Below wr.heap.size wr (wr.drewN 1)) := Lib.hid (refl_drewN wr 1)
        clear hbw hk hk6 hlcs
        go_wp2_with fail
        clear e1 e2
        refine wp_region_held_drew (S := (fun w' => w'.cell? ⟨b, o + k * 2, none⟩ = some (S8 ac.1) ∧ w'.cell? ⟨b, o + k * 2 + 1, none⟩ = some (S8 ac.2))) (by kernel_rfl) ?rs0 (fun hHeld => ?_)
        case rs0 => exact HTS.out _ (off_below HB.out)
        refine held_take (i := 0) (v := ?r1v) rfl (by kernel_rfl) (by kernel_rfl) (by kernel_rfl) (fun _ _ _ h => h) (by rfl) ?r1y hHeld ?_
        case r1y => ((intro w _hSw; (try dsimp only at _hSw); go_simp); try (with_reducible rfl))
        try simp only [Act.put, List.setIfInBounds_toArray, List.set_cons_zero, List.set_cons_succ]
        refine held_take (i := 1) (v := ?r2v) rfl (by kernel_rfl) (by kernel_rfl) (by kernel_rfl) (fun _ _ _ h => h) (by rfl) ?r2y hHeld ?_
        case r2y => ((intro w _hSw; (try dsimp only at _hSw); go_simp); try (with_reducible rfl))
        try simp only [Act.put, List.setIfInBounds_toArray, List.set_cons_zero, List.set_cons_succ]
        refine held_take (i := 2) (v := ?r3v) rfl (by kernel_rfl) (by kernel_rfl) (by kernel_rfl) (fun _ _ _ h => h) (by rfl) ?r3y hHeld ?_
        case r3y => ((intro w _hSw; (try dsimp only at _hSw); go_simp); try (with_reducible rfl))
        try simp only [Act.put, List.setIfInBounds_toArray, List.set_cons_zero, List.set_cons_succ]
        refine held_take (i := 3) (v := ?r4v) rfl (by kernel_rfl) (by kernel_rfl) (by kernel_rfl) (fun _ _ _ h => h) (by rfl) ?r4y hHeld ?_
        case r4y => ((intro w _hSw; (try dsimp only at _hSw); go_simp); try (with_reducible rfl))
        try simp only [Act.put, List.setIfInBounds_toArray, List.set_cons_zero, List.set_cons_succ]
        refine held_take (i := 4) (v := ?r5v) rfl (by kernel_rfl) (by kernel_rfl) (by kernel_rfl) (fun _ _ _ h => h) (by rfl) ?r5y hHeld ?_
        case r5y => ((intro w _hSw; (try dsimp only at _hSw); go_simp); try (with_reducible rfl))
        try simp only [Act.put, List.setIfInBounds_toArray, List.set_cons_zero, List.set_cons_succ]
        refine held_take (i := 5) (v := ?r6v) rfl (by kernel_rfl) (by kernel_rfl) (by kernel_rfl) (fun _ _ _ h => h) (by rfl) ?r6y hHeld ?_
        case r6y => ((intro w _hSw; (try dsimp only at _hSw); go_simp); try (with_reducible rfl))
        try simp only [Act.put, List.setIfInBounds_toArray, List.set_cons_zero, List.set_cons_succ]
        refine held_take (i := 6) (v := ?r7v) rfl (by kernel_rfl) (by kernel_rfl) (by kernel_rfl) (fun _ _ _ h => h) (by rfl) ?r7y hHeld ?_
        case r7y => ((intro w _hSw; (try dsimp only at _hSw); go_simp); try (with_reducible rfl))
        try simp only [Act.put, List.setIfInBounds_toArray, List.set_cons_zero, List.set_cons_succ]
        refine held_take (i := 7) (v := ?r8v) rfl (by kernel_rfl) (by kernel_rfl) (by kernel_rfl) (fun _ _ _ h => h) (by rfl) ?r8y hHeld ?_
        case r8y => ((intro w _hSw; (try dsimp only at _hSw); go_simp); try (with_reducible rfl))
        try simp only [Act.put, List.setIfInBounds_toArray, List.set_cons_zero, List.set_cons_succ]
        refine held_take (i := 8) (v := ?r9v) rfl (by kernel_rfl) (by kernel_rfl) (by kernel_rfl) (fun _ _ _ h => h) (by rfl) ?r9y hHeld ?_
        case r9y => ((intro w _hSw; (try dsimp only at _hSw); go_simp); try (with_reducible rfl))
        try simp only [Act.put, List.setIfInBounds_toArray, List.set_cons_zero, List.set_cons_succ]
        refine held_take (i := 9) (v := ?r10v) rfl (by kernel_rfl) (by kernel_rfl) (by kernel_rfl) (fun _ _ _ h => h) (by rfl) ?r10y hHeld ?_
        case r10y => ((intro w _hSw; (try dsimp only at _hSw); go_simp); try (with_reducible rfl))
        try simp only [Act.put, List.setIfInBounds_toArray, List.set_cons_zero, List.set_cons_succ]
        refine held_take (i := 10) (v := ?r11v) rfl (by kernel_rfl) (by kernel_rfl) (by kernel_rfl) (fun _ _ _ h => h) (by rfl) ?r11y hHeld ?_
        case r11y => ((intro w _hSw; (try dsimp only at _hSw); go_simp); try (with_reducible rfl))
        try simp only [Act.put, List.setIfInBounds_toArray, List.set_cons_zero, List.set_cons_succ]
        refine held_step (i := 11) rfl (by kernel_rfl) (by rfl) (fun K hK => ?_)
        go_simp
        refine (set_any t u4 ac.1 ac.2 _ (HR.out.1.below HB.out) (by have := HG.out; omega) HAC.out.2.1 HAC.out.2.2 (HT.out.2.2.2.1.below (below_then HW.out HW.out.size HB.out) HT.out.2.2.2.1.lt)).mono ?_
        rintro e wc ⟨gv, rfl, hn, hb⟩
        have HV := Lib.hid hn
        have HB := Lib.hid (below_then HB.out HB.out.size hb)
        clear hn hb
        go_wp2_with fail
        have hHeld := HTS.out _ (off_below HB.out)
        refine hK.out _ _ (HTS.out _ (off_below HB.out)) ?_
        clear hK K
        try simp only [Act.put, List.setIfInBounds_toArray, List.set_cons_zero, List.set_cons_succ]
        refine held_take (i := 12) (v := ?r12v) rfl (by kernel_rfl) (by kernel_rfl) (by kernel_rfl) (fun _ _ _ h => h) (by rfl) ?r12y hHeld ?_
        case r12y => ((intro w _hSw; (try dsimp only at _hSw); go_simp); try (with_reducible rfl))
        try simp only [Act.put, List.setIfInBounds_toArray, List.set_cons_zero, List.set_cons_succ]
        refine wpAnyH_done (by kernel_rfl) ?_ _
        clear hHeld
        go_wp2_with fail
        obtain ⟨v, hv⟩ : ∃ v, v = Ptr gv := ⟨_, rfl⟩
        have HV := Lib.hid (show TreeO wc (some (setO ac.1 ac.2 t)) v from ⟨gv, hv, HV.out⟩)
        rw [← hv]
        clear hv
        have HB := Lib.hid (below_then HB.out HB.out.size (refl_drewN _ 1))
        have HV := Lib.hid (HV.out.below (refl_drewN _ 1))
        have HR := Lib.hid (And.intro (HR.out.1.below HB.out) (HR.out.2.below HB.out))
        have HBL := Lib.hid (And.intro (HBL.out.1.below HB.out) (And.intro (HBL.out.2.1.below HB.out) HBL.out.2.2))
        have HW := Lib.hid (below_then HW.out HW.out.size HB.out)
        have HTS : Hid (∀ w', Off (wc.drewN 1) xr w' → w'.cell? ⟨b, o + k * 2, none⟩ = some (S8 ac.1) ∧ w'.cell? ⟨b, o + k * 2 + 1, none⟩ = some (S8 ac.2)) := Lib.hid fun w' h => HTS.out _ (fun b hb hne => (h b (Nat.lt_of_lt_of_le hb HB.out.size) hne).trans (HB.out.block b hb))
        have HB : Hid (Below (wc.drewN 1).heap.size (wc.drewN 1) (wc.drewN 1)) := Lib.hid (Below.refl _ _)
        refine wp_region_held_drew (S := (fun w' => w'.cell? ⟨b, o + k * 2, none⟩ = some (S8 ac.1) ∧ w'.cell? ⟨b, o + k * 2 + 1, none⟩ = some (S8 ac.2))) (by kernel_rfl) ?ss0 (fun hHeld => ?_)
        case ss0 => exact HTS.out _ (off_below HB.out)
        refine held_take (i := 1) (v := ?s1v) rfl (by kernel_rfl) (by kernel_rfl) (by kernel_rfl) (fun _ _ _ h => h) (by rfl) ?s1y hHeld ?_
        case s1y => ((intro w _hSw; (try dsimp only at _hSw); go_simp); try (with_reducible rfl))
        try simp only [Act.put, List.setIfInBounds_toArray, List.set_cons_zero, List.set_cons_succ]
        refine held_take (i := 2) (v := ?s2v) rfl (by kernel_rfl) (by kernel_rfl) (by kernel_rfl) (fun _ _ _ h => h) (by rfl) ?s2y hHeld ?_
        case s2y => ((intro w _hSw; (try dsimp only at _hSw); go_simp); try (with_reducible rfl))
        try simp only [Act.put, List.setIfInBounds_toArray, List.set_cons_zero, List.set_cons_succ]
        refine held_take (i := 3) (v := ?s3v) rfl (by kernel_rfl) (by kernel_rfl) (by kernel_rfl) (fun _ _ _ h => h) (by rfl) ?s3y hHeld ?_
        case s3y => ((intro w _hSw; (try dsimp only at _hSw); go_simp); try (with_reducible rfl))
        try simp only [Act.put, List.setIfInBounds_toArray, List.set_cons_zero, List.set_cons_succ]
        refine held_take (i := 4) (v := ?s4v) rfl (by kernel_rfl) (by kernel_rfl) (by kernel_rfl) (fun _ _ _ h => h) (by rfl) ?s4y hHeld ?_
        case s4y => ((intro w _hSw; (try dsimp only at _hSw); go_simp); try (with_reducible rfl))
        try simp only [Act.put, List.setIfInBounds_toArray, List.set_cons_zero, List.set_cons_succ]
        refine held_take (i := 5) (v := ?s5v) rfl (by kernel_rfl) (by kernel_rfl) (by kernel_rfl) (fun _ _ _ h => h) (by rfl) ?s5y hHeld ?_
        case s5y => ((intro w _hSw; (try dsimp only at _hSw); go_simp); try (with_reducible rfl))
        try simp only [Act.put, List.setIfInBounds_toArray, List.set_cons_zero, List.set_cons_succ]
        refine held_take (i := 6) (v := ?s6v) rfl (by kernel_rfl) (by kernel_rfl) (by kernel_rfl) (fun _ _ _ h => h) (by rfl) ?s6y hHeld ?_
        case s6y => ((intro w _hSw; (try dsimp only at _hSw); go_simp); try (with_reducible rfl))
        try simp only [Act.put, List.setIfInBounds_toArray, List.set_cons_zero, List.set_cons_succ]
        refine held_take (i := 7) (v := ?s7v) rfl (by kernel_rfl) (by kernel_rfl) (by kernel_rfl) (fun _ _ _ h => h) (by rfl) ?s7y hHeld ?_
        case s7y => ((intro w _hSw; (try dsimp only at _hSw); go_simp); try (with_reducible rfl))
        try simp only [Act.put, List.setIfInBounds_toArray, List.set_cons_zero, List.set_cons_succ]
        refine held_take (i := 8) (v := ?s8v) rfl (by kernel_rfl) (by kernel_rfl) (by kernel_rfl) (fun _ _ _ h => h) (by rfl) ?s8y hHeld ?_
        case s8y => ((intro w _hSw; (try dsimp only at _hSw); go_simp); try (with_reducible rfl))
        try simp only [Act.put, List.setIfInBounds_toArray, List.set_cons_zero, List.set_cons_succ]
        refine held_take (i := 9) (v := ?s9v) rfl (by kernel_rfl) (by kernel_rfl) (by kernel_rfl) (fun _ _ _ h => h) (by rfl) ?s9y hHeld ?_
        case s9y => ((intro w _hSw; (try dsimp only at _hSw); go_simp); try (with_reducible rfl))
        try simp only [Act.put, List.setIfInBounds_toArray, List.set_cons_zero, List.set_cons_succ]
        refine held_take (i := 10) (v := ?s10v) rfl (by kernel_rfl) (by kernel_rfl) (by kernel_rfl) (fun _ _ _ h => h) (by rfl) ?s10y hHeld ?_
        case s10y => ((intro w _hSw; (try dsimp only at _hSw); go_simp); try (with_reducible rfl))
        try simp only [Act.put, List.setIfInBounds_toArray, List.set_cons_zero, List.set_cons_succ]
        refine held_step (i := 0) rfl (by kernel_rfl) (by rfl) (fun K hK => ?_)
        refine wp_ld (.tmp 5) rfl ⟨xr, 0, none⟩ (.agg cs.toArray) rfl (ld_tree (HBL.out.1.below HB.out) HBL.out.2.2.2) ?_
        have hHeld := HTS.out _ (off_below HB.out)
        refine hK.out _ _ (HTS.out _ (off_below HB.out)) ?_
        clear hK K
        (try simp only [Act.put]); (try simp only [List.setIfInBounds_toArray]); (try simp only [List.set_cons_succ]); (try simp only [List.set_cons_zero])
        refine held_step (i := 11) rfl (by kernel_rfl) (by rfl) (fun K hK => ?_)
        go_simp
        refine (rset_any t ac.1 ac.2 cs _ (HR.out.2.below HB.out) HG.out.1 (by have := HG.out; omega)).mono ?_
        rintro e wc ⟨cs', rfl, hn, hb⟩
        have HN := Lib.hid (show RO wc (some (setO ac.1 ac.2 t)) cs' from hn)
        have HB := Lib.hid (below_then HB.out HB.out.size hb)
        clear hn hb
        go_wp2_with fail
        have hHeld := HTS.out _ (off_below HB.out)
        refine hK.out _ _ (HTS.out _ (off_below HB.out)) ?_
        clear hK K
        try simp only [Act.put, List.setIfInBounds_toArray, List.set_cons_zero, List.set_cons_succ]
        refine held_step (i := 12) rfl (by kernel_rfl) (by rfl) (fun K hK => ?_)
        refine wp_store_blk 26 (.tmp 5) (.tmp 41) rfl xr cs' rfl rfl 26 _ (HBL.out.1.below HB.out) (by rw [HN.out.len]; kernel_rfl) (by rw [HN.out.len, HBL.out.2.2.2]) HN.out.one ?_
        intro w9 hz hg
        have H9 := Lib.hid (And.intro hz (And.intro ((below_then HW.out HW.out.size HB.out).grown hg (below_then HW.out HW.out.size HB.out).size (fun q e => by injection e with e; have := HBL.out.2.2.1; omega)) (And.intro (RO.store4 HBL.out.2.2.2 (HBL.out.1.below HB.out) hg HN.out) (And.intro (TreeO.store (by decide) (HBL.out.1.below HB.out) hg (HV.out.below HB.out)) ((HBL.out.2.1.below HB.out).grown hg (by intro e; injection e with e; have := HBL.out.2.2.1; omega))))))
        have HS9 := Lib.hid (off_store HB.out hg)
        clear hz hg
        have hHeld := HTS.out _ HS9.out
        refine hK.out _ _ (HTS.out _ HS9.out) ?_
        clear hK K
        (try simp only [Act.put]); (try simp only [List.setIfInBounds_toArray]); (try simp only [List.set_cons_succ]); (try simp only [List.set_cons_zero])
        refine wpAnyH_done (by kernel_rfl) ?_ _
        go_wp2
        refine ⟨⟨k + 1, some (setO ac.1 ac.2 t), v, cs', rfl, by simp, hkl, hk60, ?_, H9.out.2.2.2.1, H9.out.2.2.1, H9.out.1, H9.out.2.2.2.2, H9.out.2.1⟩, ?_⟩
        · rw [take_nextP HAC.out.1, List.foldl_append, ← HTF.out]
          exact HD.out.symm
        · show 40 - Int.toNat ((k : Int) + 1) < 40 - Int.toNat (k : Int)
          omega
      · have hk1 : (k : Int) < (l.length : Int) := by omega
        have hk2 : ¬ (k : Int) < 40 := by omega
        have hfin : l.take 40 = l.take k := by rw [show k = 40 by omega]
        have HFin := Lib.hid (show grownS l = t by rw [HTF.out]; unfold grownS; rw [hfin])
        clear hfin hlcs hk hk6
        go_wp2_with fail
        refine wp_region_held_drew (S := (fun _ => True)) (by kernel_rfl) ?ts0 (fun hHeld => ?_)
        case ts0 => exact trivial
        refine held_take (i := 0) (v := ?t1v) rfl (by kernel_rfl) (by kernel_rfl) (by kernel_rfl) (fun _ _ _ h => h) (by rfl) ?t1y hHeld ?_
        case t1y => ((intro w _hSw; (try dsimp only at _hSw); go_simp); try (with_reducible rfl))
        try simp only [Act.put, List.setIfInBounds_toArray, List.set_cons_zero, List.set_cons_succ]
        refine held_take (i := 2) (v := ?t2v) rfl (by kernel_rfl) (by kernel_rfl) (by kernel_rfl) (fun _ _ _ h => h) (by rfl) ?t2y hHeld ?_
        case t2y => ((intro w _hSw; (try dsimp only at _hSw); go_simp); try (with_reducible rfl))
        try simp only [Act.put, List.setIfInBounds_toArray, List.set_cons_zero, List.set_cons_succ]
        refine held_step (i := 1) rfl (by kernel_rfl) (by rfl) (fun K hK => ?_)
        refine wp_ld (.tmp 5) rfl ⟨xr, 0, none⟩ (.agg cs.toArray) rfl (ld_tree (w := wr.drew) HBL.out.1 HBL.out.2.2.2) ?_
        have hHeld := trivial
        refine hK.out _ _ (trivial) ?_
        clear hK K
        (try simp only [Act.put]); (try simp only [List.setIfInBounds_toArray]); (try simp only [List.set_cons_succ]); (try simp only [List.set_cons_zero])
        refine held_step (i := 3) rfl (by kernel_rfl) (by rfl) (fun K hK => ?_)
        refine wp_store_blk 26 (.tmp 3) (.tmp 43) rfl w.heap.size cs rfl rfl 26 _ (show Blk wr.drew _ _ _ from HBL.out.2.1) (by rw [HBL.out.2.2.2]; kernel_rfl) (by rw [HBL.out.2.2.2]; rfl) HR.out.2.one ?_
        intro w9 hz hg
        have H9 := Lib.hid (And.intro hz (And.intro ((below_drewN HW.out 1).grown hg HW.out.size (fun q e => by injection e with e; omega)) (And.intro (RO.store4 (w := wr.drew) emptyC_len HBL.out.2.1 hg (RO.drew HR.out.2)) (TreeO.store (w := wr.drew) (by decide) HBL.out.2.1 hg (TreeO.drew HR.out.1)))))
        clear hz hg
        have hHeld := trivial
        refine hK.out _ _ (trivial) ?_
        clear hK K
        (try simp only [Act.put]); (try simp only [List.setIfInBounds_toArray]); (try simp only [List.set_cons_succ]); (try simp only [List.set_cons_zero])
        refine wpAnyH_done (by kernel_rfl) ?_ _
        go_wp2
        refine bodyPost_ret (results_tc rfl _ _ w.heap.size 26 cs _ rfl H9.out.1 Tryd.underlying26 rfl (by rw [HBL.out.2.2.2]; kernel_rfl)) rfl ⟨_, cs, rfl, ?_, ?_, H9.out.2.1⟩
        · rw [HFin.out]; exact H9.out.2.2.2
        · rw [HFin.out]; exact H9.out.2.2.1
    · have hk1 : ¬ (k : Int) < (l.length : Int) := by omega
      have hfin : l.take 40 = l.take k := by rw [List.take_of_length_le (by omega : l.length ≤ 40), List.take_of_length_le (by omega : l.length ≤ k)]
      have HFin := Lib.hid (show grownS l = t by rw [HTF.out]; unfold grownS; rw [hfin])
      clear hfin hlcs hk hk6
      go_wp2_with fail
      refine wp_region_held_drew (S := (fun _ => True)) (by kernel_rfl) ?us0 (fun hHeld => ?_)
      case us0 => exact trivial
      refine held_take (i := 0) (v := ?u1v) rfl (by kernel_rfl) (by kernel_rfl) (by kernel_rfl) (fun _ _ _ h => h) (by rfl) ?u1y hHeld ?_
      case u1y => ((intro w _hSw; (try dsimp only at _hSw); go_simp); try (with_reducible rfl))
      try simp only [Act.put, List.setIfInBounds_toArray, List.set_cons_zero, List.set_cons_succ]
      refine held_take (i := 2) (v := ?u2v) rfl (by kernel_rfl) (by kernel_rfl) (by kernel_rfl) (fun _ _ _ h => h) (by rfl) ?u2y hHeld ?_
      case u2y => ((intro w _hSw; (try dsimp only at _hSw); go_simp); try (with_reducible rfl))
      try simp only [Act.put, List.setIfInBounds_toArray, List.set_cons_zero, List.set_cons_succ]
      refine held_step (i := 1) rfl (by kernel_rfl) (by rfl) (fun K hK => ?_)
      refine wp_ld (.tmp 5) rfl ⟨xr, 0, none⟩ (.agg cs.toArray) rfl (ld_tree (w := wr.drew) HBL.out.1 HBL.out.2.2.2) ?_
      have hHeld := trivial
      refine hK.out _ _ (trivial) ?_
      clear hK K
      (try simp only [Act.put]); (try simp only [List.setIfInBounds_toArray]); (try simp only [List.set_cons_succ]); (try simp only [List.set_cons_zero])
      refine held_step (i := 3) rfl (by kernel_rfl) (by rfl) (fun K hK => ?_)
      refine wp_store_blk 26 (.tmp 3) (.tmp 43) rfl w.heap.size cs rfl rfl 26 _ (show Blk wr.drew _ _ _ from HBL.out.2.1) (by rw [HBL.out.2.2.2]; kernel_rfl) (by rw [HBL.out.2.2.2]; rfl) HR.out.2.one ?_
      intro w9 hz hg
      have H9 := Lib.hid (And.intro hz (And.intro ((below_drewN HW.out 1).grown hg HW.out.size (fun q e => by injection e with e; omega)) (And.intro (RO.store4 (w := wr.drew) emptyC_len HBL.out.2.1 hg (RO.drew HR.out.2)) (TreeO.store (w := wr.drew) (by decide) HBL.out.2.1 hg (TreeO.drew HR.out.1)))))
      clear hz hg
      have hHeld := trivial
      refine hK.out _ _ (trivial) ?_
      clear hK K
      (try simp only [Act.put]); (try simp only [List.setIfInBounds_toArray]); (try simp only [List.set_cons_succ]); (try simp only [List.set_cons_zero])
      refine wpAnyH_done (by kernel_rfl) ?_ _
      go_wp2
      refine bodyPost_ret (results_tc rfl _ _ w.heap.size 26 cs _ rfl H9.out.1 Tryd.underlying26 rfl (by rw [HBL.out.2.2.2]; kernel_rfl)) rfl ⟨_, cs, rfl, ?_, ?_, H9.out.2.1⟩
      · rw [HFin.out]; exact H9.out.2.2.2
      · rw [HFin.out]; exact H9.out.2.2.1
end Go.Proofs.YtdekealpachhmaaDoor
