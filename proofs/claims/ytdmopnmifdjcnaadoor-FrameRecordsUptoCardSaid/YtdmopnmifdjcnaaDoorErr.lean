/- errors.Is where the error is nil or an api.Fault of an api.Errno, and the target an api.Errno. -/
import Derived.Test.YtdmopnmifdjcnaaDoorProg
import Derived.Test.YtdmopnmifdjcnaaDoorMem
import Derived.LaidEql
import Derived.Stop.Asserts
import Derived.RowKitTokens
import Derived.Lib.Hide
namespace Go.Proofs.YtdmopnmifdjcnaaDoor
open Go Go.RowKit Go.Isth Go.Extern.Stop Go.Stop Go.Extern

/-- An error of the number k. -/
def ErrIs (w : World) (v : Value) (k : Int) : Prop := ∃ b s, v = .iface 90 (.pointer (some ⟨b, 0, none⟩)) ∧ w.heap[b]? = some (.cells #[.string s, .iface 71 (.int .i64 k)] 92 (0, 0))
theorem ErrIs.below {w w' : World} {v : Value} {k : Int} (h : ErrIs w v k) (hb : Below w.heap.size w w') : ErrIs w' v k := by
  obtain ⟨b, s, e, hc⟩ := h
  exact ⟨b, s, e, by rw [hb.block b (Array.getElem?_eq_some_iff.1 hc).1]; exact hc⟩
theorem ErrIs.new (w : World) (s : ByteArray) (k : Int) : ErrIs (w.alloc (.cells #[.string s, .iface 71 (.int .i64 k)] 92)) (.iface 90 (.pointer (some ⟨w.heap.size, 0, none⟩))) k :=
  ⟨_, s, rfl, heap_alloc_new w _⟩

/-! The law of note 10: '==' of two interface values of one integer type. -/
theorem run_eql_iface_num {P : Program} {ti tn : TypeId} {ms : Array (String × TypeId)} {i : TypeInfo} {k : IntKind} (a b : Int) (w : World)
    (hi : P.underlying ti = some (.interface ms)) (hn : P.underlying tn = some (.int k)) (hinfo : P.info? tn = some i) (hcomp : i.comparable = true) :
    (binOp .eql ti (.iface tn (.int k a)) (.iface tn (.int k b))).run P w = .ok (.bool (a == b)) w := by
  have h : ∀ d : Nat, (Op.equalIn (d + 2) ti (.iface tn (.int k a)) (.iface tn (.int k b))).run P w = .ok (a == b) w := fun d => by
    simp [Op.equalIn, run_underlying hi, run_underlying hn, typeInfo, hinfo, hcomp]
  simp only [binOp]
  simp [Op.equal, Op.maxDepth, h 9998]

theorem isTypeOf (v : Value) (w : World) : (ReflectliteType.typeOf #[.iface 71 v]).run Tryd.prog w = .ok (.iface 108 (.agg #[.pointer (some ⟨1, 71, none⟩)])) w := by kernel_rfl
def comparableF : Array Value → Sem Value := ReflectliteType.method fun t => do Go.Extern.Rtype.noPackHeld "Comparable" t; pure (.bool (← typeInfo t).comparable)
theorem isComparable (w : World) : (comparableF #[.agg #[.pointer (some ⟨1, 71, none⟩)]]).run Tryd.prog w = .ok (.bool true) w := by kernel_rfl
theorem isMethodComparable (v : Value) (w : World) : (Go.method 249 108 v "Comparable").run Tryd.prog w = .ok (84, v) w := by kernel_rfl
theorem isCompE : (Tryd.prog.info? 71).map (·.comparable) = some true := by kernel_rfl
theorem noIsF (v : Value) (xT : TypeId) (w : World) : (Instr.typeAssert (.iface 90 v) xT 110 true).run Tryd.prog w = .ok (.tuple #[.nilIface, .bool false]) w := run_typeAssert_lacksB Tryd.underlying110 (by kernel_rfl) (by kernel_rfl) v xT w
theorem hasUnwrapF (v : Value) (xT : TypeId) (w : World) : (Instr.typeAssert (.iface 90 v) xT 112 true).run Tryd.prog w = .ok (.tuple #[.iface 90 v, .bool true]) w := run_typeAssert_hasB Tryd.underlying112 (by kernel_rfl) v xT w
theorem methodUnwrapF (v : Value) (w : World) : (Go.method 249 90 v "Unwrap").run Tryd.prog w = .ok (78, v) w := by kernel_rfl
theorem noIsE (v : Value) (xT : TypeId) (w : World) : (Instr.typeAssert (.iface 71 v) xT 110 true).run Tryd.prog w = .ok (.tuple #[.nilIface, .bool false]) w := run_typeAssert_lacksB Tryd.underlying110 (by kernel_rfl) (by kernel_rfl) v xT w
theorem noUnwrapE (v : Value) (xT : TypeId) (w : World) : (Instr.typeAssert (.iface 71 v) xT 112 true).run Tryd.prog w = .ok (.tuple #[.nilIface, .bool false]) w := run_typeAssert_lacksB Tryd.underlying112 (by kernel_rfl) (by kernel_rfl) v xT w
theorem noUnwrapsE (v : Value) (xT : TypeId) (w : World) : (Instr.typeAssert (.iface 71 v) xT 113 true).run Tryd.prog w = .ok (.tuple #[.nilIface, .bool false]) w := run_typeAssert_lacksB Tryd.underlying113 (by kernel_rfl) (by kernel_rfl) v xT w

theorem is_nil (k : Int) (w : World) : Calls Tryd.prog 41 #[.nilIface, .iface 71 (.int .i64 k)] w fun e w' => e = .returned (.bool false) ∧ w' = w := by
  have hn := run_eql_iface_nil_left (P := Tryd.prog) w 71 (.int .i64 k) Tryd.underlying25
  go_enter Tryd.func41, Tryd.ntmps41
  go_wp2
  go_ret
  exact ⟨rfl, rfl⟩

set_option maxHeartbeats 1000000 in
theorem is_err (v : Value) (j k : Int) (w : World) (h : ErrIs w v j) : Calls Tryd.prog 41 #[v, .iface 71 (.int .i64 k)] w fun e w' => e = .returned (.bool (j == k)) ∧ w' = w := by
  obtain ⟨b, s, rfl, hc⟩ := h
  obtain ⟨i, hi, hcmp⟩ := Option.map_eq_some_iff.1 isCompE
  have h0 : w.cell? ⟨b, 0, none⟩ = some (.string s) := cell_of_row w b 0 _ _ _ hc
  have h1 : w.cell? ⟨b, 1, none⟩ = some (.iface 71 (.int .i64 j)) := cell_of_row w b 1 _ _ _ hc
  have h8 := @run_callFunc_extern Tryd.prog 51 _ ReflectliteType.typeOf Tryd.func51 (by kernel_rfl) (by kernel_rfl) (by kernel_rfl) (by kernel_rfl)
  have h32 := @run_callFunc_extern Tryd.prog 84 _ comparableF Tryd.func84 (by kernel_rfl) (by kernel_rfl) (by kernel_rfl) (by kernel_rfl)
  have tT := isTypeOf
  have cT := isComparable
  have mR := isMethodComparable
  have nE := noIsE
  have uE := noUnwrapE
  have vE := noUnwrapsE
  have nW := noIsF
  have uW := hasUnwrapF
  have mU := methodUnwrapF
  have heq := run_eql_iface_num (P := Tryd.prog) j k w Tryd.underlying25 Tryd.underlying71 hi hcmp
  have hty := run_eql_iface_types (P := Tryd.prog) 90 71 (.pointer (some ⟨b, 0, none⟩)) (.int .i64 k) Tryd.underlying25 (by decide) w
  clear hc
  by_cases hjk : j = k
  · have hb : (j == k) = true := by simpa using hjk
    have HJK := Lib.hid hjk
    clear hjk
    go_enter Tryd.func41, Tryd.ntmps41
    go_wp2
    refine wp_loop_rounds 2 ?_
    rw [rounds_succ]
    go_wp2
    rw [rounds_succ]
    go_wp2
    go_ret
    exact ⟨(congrArg (fun z => Ending.returned (.bool z)) (beq_iff_eq.2 HJK.out)).symm, rfl⟩
  · have hb : (j == k) = false := by simpa using hjk
    have HJK := Lib.hid hjk
    clear hjk
    go_enter Tryd.func41, Tryd.ntmps41
    go_wp2
    refine wp_loop_rounds 2 ?_
    rw [rounds_succ]
    go_wp2
    rw [rounds_succ]
    go_wp2
    go_ret
    exact ⟨(congrArg (fun z => Ending.returned (.bool z)) (beq_eq_false_iff_ne.2 HJK.out)).symm, rfl⟩
end Go.Proofs.YtdmopnmifdjcnaaDoor
