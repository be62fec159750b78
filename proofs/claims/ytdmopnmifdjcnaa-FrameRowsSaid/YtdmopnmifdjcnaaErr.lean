/- errors.Is where the error is nil or an api.Fault of an api.Errno, and the target an api.Errno. -/
import Derived.Test.YtdmopnmifdjcnaaProg
import Derived.Test.YtdmopnmifdjcnaaMem
import Derived.LaidEql
import Derived.Stop.Asserts
import Derived.RowKitTokens
import Derived.Lib.Hide
namespace Go.Proofs.Ytdmopnmifdjcnaa
open Go Go.RowKit Go.Isth Go.Extern.Stop Go.Stop Go.Extern

/-- An error of the number k. -/
def ErrIs (w : World) (v : Value) (k : Int) : Prop := ∃ b s, v = .iface 87 (.pointer (some ⟨b, 0, none⟩)) ∧ w.heap[b]? = some (.cells #[.string s, .iface 67 (.int .i64 k)] 89 (0, 0))
theorem ErrIs.below {w w' : World} {v : Value} {k : Int} (h : ErrIs w v k) (hb : Below w.heap.size w w') : ErrIs w' v k := by
  obtain ⟨b, s, e, hc⟩ := h
  exact ⟨b, s, e, by rw [hb.block b (Array.getElem?_eq_some_iff.1 hc).1]; exact hc⟩
theorem ErrIs.new (w : World) (s : ByteArray) (k : Int) : ErrIs (w.alloc (.cells #[.string s, .iface 67 (.int .i64 k)] 89)) (.iface 87 (.pointer (some ⟨w.heap.size, 0, none⟩))) k :=
  ⟨_, s, rfl, heap_alloc_new w _⟩

/-! The law of note 10: '==' of two interface values of one integer type. -/
theorem run_eql_iface_num {P : Program} {ti tn : TypeId} {ms : Array (String × TypeId)} {i : TypeInfo} {k : IntKind} (a b : Int) (w : World)
    (hi : P.underlying ti = some (.interface ms)) (hn : P.underlying tn = some (.int k)) (hinfo : P.info? tn = some i) (hcomp : i.comparable = true) :
    (binOp .eql ti (.iface tn (.int k a)) (.iface tn (.int k b))).run P w = .ok (.bool (a == b)) w := by
  have h : ∀ d : Nat, (Op.equalIn (d + 2) ti (.iface tn (.int k a)) (.iface tn (.int k b))).run P w = .ok (a == b) w := fun d => by
    simp [Op.equalIn, run_underlying hi, run_underlying hn, typeInfo, hinfo, hcomp]
  simp only [binOp]
  simp [Op.equal, Op.maxDepth, h 9998]

theorem isTypeOf (v : Value) (w : World) : (ReflectliteType.typeOf #[.iface 67 v]).run Try.prog w = .ok (.iface 95 (.agg #[.pointer (some ⟨0, 67, none⟩)])) w := by kernel_rfl
def comparableF : Array Value → Sem Value := ReflectliteType.method fun t => do Go.Extern.Rtype.noPackHeld "Comparable" t; pure (.bool (← typeInfo t).comparable)
theorem isComparable (w : World) : (comparableF #[.agg #[.pointer (some ⟨0, 67, none⟩)]]).run Try.prog w = .ok (.bool true) w := by kernel_rfl
theorem isMethodComparable (v : Value) (w : World) : (Go.method 235 95 v "Comparable").run Try.prog w = .ok (75, v) w := by kernel_rfl
theorem isCompE : (Try.prog.info? 67).map (·.comparable) = some true := by kernel_rfl
theorem noIsF (v : Value) (xT : TypeId) (w : World) : (Instr.typeAssert (.iface 87 v) xT 97 true).run Try.prog w = .ok (.tuple #[.nilIface, .bool false]) w := run_typeAssert_lacksB Try.underlying97 (by kernel_rfl) (by kernel_rfl) v xT w
theorem hasUnwrapF (v : Value) (xT : TypeId) (w : World) : (Instr.typeAssert (.iface 87 v) xT 99 true).run Try.prog w = .ok (.tuple #[.iface 87 v, .bool true]) w := run_typeAssert_hasB Try.underlying99 (by kernel_rfl) v xT w
theorem methodUnwrapF (v : Value) (w : World) : (Go.method 235 87 v "Unwrap").run Try.prog w = .ok (71, v) w := by kernel_rfl
theorem noIsE (v : Value) (xT : TypeId) (w : World) : (Instr.typeAssert (.iface 67 v) xT 97 true).run Try.prog w = .ok (.tuple #[.nilIface, .bool false]) w := run_typeAssert_lacksB Try.underlying97 (by kernel_rfl) (by kernel_rfl) v xT w
theorem noUnwrapE (v : Value) (xT : TypeId) (w : World) : (Instr.typeAssert (.iface 67 v) xT 99 true).run Try.prog w = .ok (.tuple #[.nilIface, .bool false]) w := run_typeAssert_lacksB Try.underlying99 (by kernel_rfl) (by kernel_rfl) v xT w
theorem noUnwrapsE (v : Value) (xT : TypeId) (w : World) : (Instr.typeAssert (.iface 67 v) xT 100 true).run Try.prog w = .ok (.tuple #[.nilIface, .bool false]) w := run_typeAssert_lacksB Try.underlying100 (by kernel_rfl) (by kernel_rfl) v xT w

theorem is_nil (k : Int) (w : World) : Calls Try.prog 40 #[.nilIface, .iface 67 (.int .i64 k)] w fun e w' => e = .returned (.bool false) ∧ w' = w := by
  have hn := run_eql_iface_nil_left (P := Try.prog) w 67 (.int .i64 k) Try.underlying25
  go_enter Try.func40, Try.ntmps40
  go_wp2
  go_ret
  exact ⟨rfl, rfl⟩

set_option maxHeartbeats 1000000 in
theorem is_err (v : Value) (j k : Int) (w : World) (h : ErrIs w v j) : Calls Try.prog 40 #[v, .iface 67 (.int .i64 k)] w fun e w' => e = .returned (.bool (j == k)) ∧ w' = w := by
  obtain ⟨b, s, rfl, hc⟩ := h
  obtain ⟨i, hi, hcmp⟩ := Option.map_eq_some_iff.1 isCompE
  have h0 : w.cell? ⟨b, 0, none⟩ = some (.string s) := cell_of_row w b 0 _ _ _ hc
  have h1 : w.cell? ⟨b, 1, none⟩ = some (.iface 67 (.int .i64 j)) := cell_of_row w b 1 _ _ _ hc
  have h8 := @run_callFunc_extern Try.prog 52 _ ReflectliteType.typeOf Try.func52 (by kernel_rfl) (by kernel_rfl) (by kernel_rfl) (by kernel_rfl)
  have h32 := @run_callFunc_extern Try.prog 75 _ comparableF Try.func75 (by kernel_rfl) (by kernel_rfl) (by kernel_rfl) (by kernel_rfl)
  have tT := isTypeOf
  have cT := isComparable
  have mR := isMethodComparable
  have nE := noIsE
  have uE := noUnwrapE
  have vE := noUnwrapsE
  have nW := noIsF
  have uW := hasUnwrapF
  have mU := methodUnwrapF
  have heq := run_eql_iface_num (P := Try.prog) j k w Try.underlying25 Try.underlying67 hi hcmp
  have hty := run_eql_iface_types (P := Try.prog) 87 67 (.pointer (some ⟨b, 0, none⟩)) (.int .i64 k) Try.underlying25 (by decide) w
  clear hc
  by_cases hjk : j = k
  · have hb : (j == k) = true := by simpa using hjk
    have HJK := Lib.hid hjk
    clear hjk
    go_enter Try.func40, Try.ntmps40
    go_wp2
    refine wp_loop_rounds 2 ?_
    rw [rounds_succ]
    go_wp2
    rw [rounds_succ]
    go_wp2
    go_ret
    exact ⟨(congrArg (fun z => Ending.returned (.bool z)) (beq_iff_eq.2 HJK.out)).symm, rfl⟩
  · have hb : (j == k) = false := by simpa using hjk
    have HJK := Lib.hid hjk
    clear hjk
    go_enter Try.func40, Try.ntmps40
    go_wp2
    refine wp_loop_rounds 2 ?_
    rw [rounds_succ]
    go_wp2
    rw [rounds_succ]
    go_wp2
    go_ret
    exact ⟨(congrArg (fun z => Ending.returned (.bool z)) (beq_eq_false_iff_ne.2 HJK.out)).symm, rfl⟩
end Go.Proofs.Ytdmopnmifdjcnaa
