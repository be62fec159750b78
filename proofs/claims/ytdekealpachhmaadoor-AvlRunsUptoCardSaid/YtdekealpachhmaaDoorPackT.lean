/- Whole loads; a struct Thing in memory; plain. -/
import Derived.Test.YtdekealpachhmaaDoorPackP
namespace Go.Isth
open Go Go.RowKit

/-- A struct's or an array's cells, loaded whole. -/
theorem run_load_agg {P : Program} {t : TypeId} {d : TypeDesc} {n : Nat} (hu : P.underlying t = some d) (hd : (match d with | .struct _ => true | .array _ _ => true | _ => false) = true) (hi : (P.info? t).map (·.size) = some n) (w : World) (a : Addr) (cs : List Value) (hl : cs.length = n)
    (hr : ∀ j u, cs[j]? = some u → w.cell? (a.add j) = some u) : (loadVar t a).run P w = .ok (.agg cs.toArray) w := by
  have h1 := run_loadCells_list (P := P) (w := w) a cs hr
  cases hq : P.info? t with
  | none => simp [hq] at hi
  | some i =>
    have hs : i.size = cs.length := by simp [hq] at hi; omega
    cases d with
    | struct _ => simp [loadVar, isAgg, run_underlying hu, sizeOf, typeInfo, hq, hs, h1]
    | array _ _ => simp [loadVar, isAgg, run_underlying hu, sizeOf, typeInfo, hq, hs, h1]
    | _ => simp at hd

/-- 'load', its value given. -/
theorem wpList_load {P : Program} {w : World} {ops : Array Oper} {rest : List Oper} {o : Oper} {a : Act} {Q : Exit → Act → World → Prop} {t : TypeId}
    (hgd : o.guard = none) (x : Operand) (ho : o.op = .load t x) (A : Addr) (v : Value) (hx : a.eval x = .pointer (some A)) (hl : (loadVar t A).run P w = .ok v w)
    (h : wpList P ops Q rest (a.put o.dst v) w) : wpList P ops Q (o :: rest) a w := by
  refine wpList_plain hgd fun K hK => ?_
  unfold Oper.wp execOp
  simp [ho, hx, Instr.loadAt, Instr.sureAddr, hl, Oper.upon]
  exact hK _ _ h

/-- append to an own row, as one step of a region that draws. -/
theorem step_app {P : Program} {ops : Array Oper} {o : Oper} {a : Act} {w : World} {K : Act → World → Prop} {Q : Exit → Act → World → Prop} {E : Prop} {t e : TypeId} {z : Value} {size bytes : Nat} (hT : SlT P t e z size bytes)
    (hgd : o.guard = none) (s x : Operand) (ho : o.op = .call { callee := .builtin .append, args := #[s, x], argTypes := #[t, t] })
    (base : Nat) (v : Value) (n : Nat) (xs : List Value) (hs : a.eval s = v) (hown : w.ownsRow base e size v n xs)
    (A : Option Addr) (m c : Nat) (news : List Value) (hx : a.eval x = .slice A m c) (hr : Rd w A news) (hl : news.length = m * size) (h1 : ∀ u ∈ news, u.oneCell' = true)
    (hmax : n + m ≤ maxLen) (hbytes : (n + m) * bytes ≤ 140737488355328) (hbase : base ≤ w.heap.size)
    (h : ∀ v' w', w'.ownsRow base e size v' (n + m) (xs ++ news) → Ext w w' v v' → K (a.put o.dst v') w') :
    if Region.wanted o (yielded ops a.tmps) = true then Oper.wp P o a w K Q else E := by
  have hw : Region.wanted o (yielded ops a.tmps) = true := by simp [Region.wanted, hgd]
  rw [if_pos hw]
  obtain ⟨v', w', hrun, h2, h3⟩ := run_app hT w o.type base v n xs hown A m c news hr hl h1 hmax hbytes hbase
  unfold Oper.wp
  simp only [execOp, ho, resolve, invoke, builtin, Sem.run_bind, Sem.run_pure, Result.andThen_ok, List.map_toArray, List.map_cons, List.map_nil, hs, hx, hrun]
  exact h _ _ h2 h3

/-- The cells of a Thing: two numbers, bytes, a sum. -/
def thingCells (k n : Int) (sl : Value) (hs : List UInt8) : List Value := .int .i64 k :: .int .i64 n :: sl :: hs.map B
structure ThingAt (tT : TypeId) (w : World) (p : Nat) (k n : Int) (sl : Value) (hs : List UInt8) : Prop where
  block : w.heap[p]? = some (.cells (thingCells k n sl hs).toArray tT (0, 0))
theorem ThingAt.keep {tT : TypeId} {w w' : World} {p : Nat} {k n : Int} {sl : Value} {hs : List UInt8} (h : ThingAt tT w p k n sl hs) (hk : w'.heap[p]? = w.heap[p]?) : ThingAt tT w' p k n sl hs := ⟨hk.trans h.block⟩
theorem ThingAt.lt {tT : TypeId} {w : World} {p : Nat} {k n : Int} {sl : Value} {hs : List UInt8} (h : ThingAt tT w p k n sl hs) : p < w.heap.size := (Array.getElem?_eq_some_iff.1 h.block).1
theorem ThingAt.below {tT : TypeId} {w w' : World} {p : Nat} {k n : Int} {sl : Value} {hs : List UInt8} (h : ThingAt tT w p k n sl hs) (hb : Below w.heap.size w w') : ThingAt tT w' p k n sl hs := h.keep (hb.block _ h.lt)
theorem ThingAt.cells {tT : TypeId} {w : World} {p : Nat} {k n : Int} {sl : Value} {hs : List UInt8} (h : ThingAt tT w p k n sl hs) :
    w.cell? ⟨p, 0, none⟩ = some (.int .i64 k) ∧ w.cell? ⟨p, 1, none⟩ = some (.int .i64 n) ∧ w.cell? ⟨p, 2, none⟩ = some sl ∧ ∀ j u, (hs.map B)[j]? = some u → w.cell? ((⟨p, 3, none⟩ : Addr).add j) = some u := by
  refine ⟨?_, ?_, ?_, fun j u hu => ?_⟩
  · rw [cell_of_row w p 0 _ tT (0, 0) h.block]; simp [thingCells]
  · rw [cell_of_row w p 1 _ tT (0, 0) h.block]; simp [thingCells]
  · rw [cell_of_row w p 2 _ tT (0, 0) h.block]; simp [thingCells]
  · rw [add_plain, cell_of_row w p _ _ tT (0, 0) h.block, ← hu, Nat.add_comm 3 j]; simp [thingCells]

/-- What is owned stays where its block stays. -/
theorem own_block {w w' : World} {base : Nat} {e : TypeId} {size : Nat} {v : Value} {n : Nat} {xs : List Value} (h : w.ownsRow base e size v n xs) (hk : ∀ k, v.ownBlock = some k → w'.heap[k]? = w.heap[k]?) : w'.ownsRow base e size v n xs := by
  refine ⟨h.1, ?_⟩
  rcases h.2 with hn | ⟨g, cap, cur, rfl, hg, hh, r⟩
  · exact .inl hn
  · exact .inr ⟨g, cap, cur, rfl, hg, by rw [hk g rfl]; exact hh, r⟩
theorem own_block_ne {tW tb : TypeId} (hne : tb ≠ tW) {w : World} {base' b : Nat} {u x : Value} {n : Nat} {xs : List Value} (h : w.ownsRow base' tb 1 u n xs) (hb : w.heap[b]? = some (.cells #[x] tW (0, 0))) : u.ownBlock ≠ some b := by
  rcases h.2 with ⟨rfl, _⟩ | ⟨g, cap, cur, rfl, _, hh, _⟩
  · simp [Value.ownBlock]
  · intro e
    have : g = b := by simpa [Value.ownBlock] using e
    subst this
    rw [hb] at hh
    injection hh with hh
    injection hh with _ h2 _
    exact hne h2.symm
theorem WExt.own {tW tb : TypeId} (hne : tb ≠ tW) {w w' : World} {base base' b : Nat} {v v' u : Value} {bs : List UInt8} {n : Nat} {xs : List Value} (h : WExt w w' b v v') (hW : WriterIs tW tb w base b v bs)
    (hu : w.ownsRow base' tb 1 u n xs) (hap : u.ownBlock = none ∨ u.ownBlock ≠ v.ownBlock) : w'.ownsRow base' tb 1 u n xs :=
  own_block hu fun k e => h.block k (hu.lt k e).2 (fun e' => own_block_ne hne hu hW.cell (by rw [e, e'])) (fun e' => by
    rcases hap with h | h
    · rw [e] at h; cases h
    · exact h (e.trans e'.symm))
theorem WExt.thing {tT : TypeId} {w w' : World} {b : Nat} {v v' : Value} (h : WExt w w' b v v') {p : Nat} {k n : Int} {sl : Value} {hs : List UInt8} (ht : ThingAt tT w p k n sl hs) (h1 : p ≠ b) (h2 : v.ownBlock ≠ some p) : ThingAt tT w' p k n sl hs :=
  ht.keep (h.block p ht.lt h1 h2)
#print axioms run_load_agg
end Go.Isth
