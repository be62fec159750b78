/- Slice literals of one and of two structs, their cells a list that nobody reckons. Over any program. -/
import Derived.Test.YtdekealpachhmaaDoorReg2
import Derived.Test.YtdekealpachhmaaDoorFill
import Derived.Great.BuildSlice
namespace Go.Isth
open Go Go.RowKit
section
variable {P : Program} {o : Oper} {a : Act} {w : World} {K : Act → World → Prop} {Q : Exit → Act → World → Prop} {t e : TypeId} {z : Value} {size bytes : Nat}
theorem fill_rows1 (A : Array Value) (v : Value) (cs : List Value) (hA : A.size = size) (hv : v.cells = cs.toArray) (hl : cs.length = size) :
    Instr.fill (fun i => some (i * size, size)) A [(0, v)] = some cs.toArray := by
  have h := fill_part (fun i => some (i * size, size)) 0 0 v cs [] A.toList [] [] (by simp [hl]) hv rfl (by simp [hA, hl])
  simp only [List.nil_append, List.append_nil] at h
  exact (show Instr.fill _ A _ = _ from h).trans (fill_nil _ _)
theorem fill_rows2 (A : Array Value) (v u : Value) (cs ds : List Value) (hA : A.size = 2 * size) (hv : v.cells = cs.toArray) (hu : u.cells = ds.toArray) (hl : cs.length = size) (hm : ds.length = size) :
    Instr.fill (fun i => some (i * size, size)) A [(0, v), (1, u)] = some (cs ++ ds).toArray := by
  have e : A = ([] ++ A.toList.take size ++ A.toList.drop size).toArray := by simp
  rw [e, fill_part (fun i => some (i * size, size)) 0 0 v cs [] (A.toList.take size) (A.toList.drop size) [(1, u)] (by simp [hl]) hv rfl (by simp [hA, hl]; omega)]
  have h := fill_part (fun i => some (i * size, size)) 1 size u ds ([] ++ cs) (A.toList.drop size) [] [] (by simp [hm]) hu (by simp [hl]) (by simp [hA, hm]; omega)
  rw [List.append_nil] at h
  rw [h, fill_nil]
  simp
theorem wp_row1 (hT : SlT P t e z size bytes) (x : Operand) (ho : o.op = .buildSlice t 1 #[(0, x)]) (cs : List Value) (hx : a.eval x = .agg cs.toArray) (hl : cs.length = size) (hs : size ≤ 1000000)
    (h : K (a.put o.dst (.slice (some ⟨w.heap.size, 0, none⟩) 1 1)) (w.alloc (.cells cs.toArray e))) : o.wp P a w K Q := by
  have hi := hT.info
  cases hie : P.info? e with
  | none => rw [hie] at hi; cases hi
  | some ie =>
    rw [hie] at hi
    simp only [Option.map_some, Option.some.injEq, Prod.mk.injEq] at hi
    obtain ⟨hz, hsz, _⟩ := hi
    have := hT.pos
    refine wp_buildSlice t e 1 #[(0, x)] ho cs.toArray ie z hT.under hie hz (by rw [hsz]; omega) (by rw [hsz]; omega) ?_ h
    rw [hsz]
    simp only [List.map_toArray, List.map_cons, List.map_nil, hx]
    exact fill_rows1 _ _ cs (by simp) rfl hl
theorem wp_row2 (hT : SlT P t e z size bytes) (x y : Operand) (ho : o.op = .buildSlice t 2 #[(0, x), (1, y)]) (cs ds : List Value) (hx : a.eval x = .agg cs.toArray) (hy : a.eval y = .agg ds.toArray) (hl : cs.length = size) (hm : ds.length = size) (hs : size ≤ 1000000)
    (h : K (a.put o.dst (.slice (some ⟨w.heap.size, 0, none⟩) 2 2)) (w.alloc (.cells (cs ++ ds).toArray e))) : o.wp P a w K Q := by
  have hi := hT.info
  cases hie : P.info? e with
  | none => rw [hie] at hi; cases hi
  | some ie =>
    rw [hie] at hi
    simp only [Option.map_some, Option.some.injEq, Prod.mk.injEq] at hi
    obtain ⟨hz, hsz, _⟩ := hi
    have := hT.pos
    refine wp_buildSlice t e 2 #[(0, x), (1, y)] ho (cs ++ ds).toArray ie z hT.under hie hz (by rw [hsz]; omega) (by rw [hsz]; omega) ?_ h
    rw [hsz]
    simp only [List.map_toArray, List.map_cons, List.map_nil, hx, hy]
    exact fill_rows2 _ _ _ cs ds (by simp) rfl rfl hl hm
theorem wpList_row1 {ops : Array Oper} {rest : List Oper} (hg : o.guard = none) (hT : SlT P t e z size bytes) (x : Operand) (ho : o.op = .buildSlice t 1 #[(0, x)]) (cs : List Value) (hx : a.eval x = .agg cs.toArray) (hl : cs.length = size) (hs : size ≤ 1000000)
    (h : wpList P ops Q rest (a.put o.dst (.slice (some ⟨w.heap.size, 0, none⟩) 1 1)) (w.alloc (.cells cs.toArray e))) : wpList P ops Q (o :: rest) a w :=
  wpList_plain hg fun _ hK => wp_row1 hT x ho cs hx hl hs (hK _ _ h)
theorem wpList_row2 {ops : Array Oper} {rest : List Oper} (hg : o.guard = none) (hT : SlT P t e z size bytes) (x y : Operand) (ho : o.op = .buildSlice t 2 #[(0, x), (1, y)]) (cs ds : List Value) (hx : a.eval x = .agg cs.toArray) (hy : a.eval y = .agg ds.toArray) (hl : cs.length = size) (hm : ds.length = size) (hs : size ≤ 1000000)
    (h : wpList P ops Q rest (a.put o.dst (.slice (some ⟨w.heap.size, 0, none⟩) 2 2)) (w.alloc (.cells (cs ++ ds).toArray e))) : wpList P ops Q (o :: rest) a w :=
  wpList_plain hg fun _ hK => wp_row2 hT x y ho cs ds hx hy hl hm hs (hK _ _ h)
end
end Go.Isth
