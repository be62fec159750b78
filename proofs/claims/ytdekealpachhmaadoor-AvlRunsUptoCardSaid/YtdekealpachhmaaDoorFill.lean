/- Structs built of parts, an array among them; arrays and structs loaded whole at places. Over any program. -/
import Derived.Test.YtdekealpachhmaaDoorBlk
namespace Go.Isth
open Go Go.RowKit

theorem fill_fold : ∀ (cs : List Value) (s off : Nat) (pre mid post : List Value), off + s = pre.length → mid.length = cs.length → (cs.zipIdx s).foldl (fun arr x => arr.setIfInBounds (off + x.snd) x.fst) (pre ++ mid ++ post).toArray = (pre ++ cs ++ post).toArray
  | [], s, off, pre, mid, post, _, h => by simp at h; subst h; rfl
  | c :: cs, s, off, pre, [], post, _, h => by simp at h
  | c :: cs, s, off, pre, m :: mid, post, ho, h => by
    rw [List.zipIdx_cons, List.foldl_cons]
    have e : ((pre ++ m :: mid ++ post).toArray.setIfInBounds (off + s) c) = ((pre ++ [c]) ++ mid ++ post).toArray := by
      rw [ho]; simp
    simp only [e]
    rw [fill_fold cs (s + 1) off (pre ++ [c]) mid post (by simp; omega) (by simpa using h)]
    simp
/-- One part into its place. -/
theorem fill_part (place : Nat → Option (Nat × Nat)) (i off : Nat) (v : Value) (cs pre mid post : List Value) (rest : List (Nat × Value)) (hp : place i = some (off, cs.length)) (hv : v.cells = cs.toArray) (ho : pre.length = off) (hm : mid.length = cs.length) :
    Instr.fill place (pre ++ mid ++ post).toArray ((i, v) :: rest) = Instr.fill place (pre ++ cs ++ post).toArray rest := by
  rw [Instr.fill, hp]
  simp only [hv]
  rw [if_neg (by simp; omega)]
  congr 1
  rw [← fill_fold cs 0 off pre mid post (by simpa using ho.symm) hm]
  simp
theorem fill_nil (place : Nat → Option (Nat × Nat)) (cells : Array Value) : Instr.fill place cells [] = some cells := rfl
theorem built_struct {P : Program} {t : TypeId} {fields : Array Field} {zs : List Value} {places : List (Nat × Nat)} (hz : (P.info? t).bind (fun i => i.zero.map Value.cells) = some zs.toArray) (hu : P.underlying t = some (.struct fields))
    (hp : fields.toList.mapM (fun f => (P.info? f.type).map fun i => (f.offset, i.size)) = some places) (parts : List (Nat × Value)) : P.built t parts = Instr.fill (places.toArray[·]?) zs.toArray parts := by
  unfold Program.built
  cases hi : P.info? t with
  | none => rw [hi] at hz; cases hz
  | some it =>
    rw [hi] at hz
    simp only [Option.bind_some, Option.map_eq_some_iff] at hz
    obtain ⟨z, hz, hc⟩ := hz
    simp only [hu, hz, hp, hc]
section
variable {P : Program} {w : World} {ops : Array Oper} {rest : List Oper} {o : Oper} {a : Act} {Q : Exit → Act → World → Prop}
theorem wpList_built (hg : o.guard = none) (t : TypeId) (parts : Array (Nat × Operand)) (ho : o.op = .build t parts) (vs : List (Nat × Value)) (cells : List Value) (hf : P.built t vs = some cells.toArray) (hv : (parts.toList.map fun x => (x.1, a.eval x.2)) = vs)
    (h : wpList P ops Q rest (a.put o.dst (.agg cells.toArray)) w) : wpList P ops Q (o :: rest) a w := by
  have hv' : (parts.map fun (i, x) => (i, a.eval x)).toList = vs := by rw [Array.toList_map]; exact hv
  subst hv'
  exact wpList_build hg t parts ho (by rw [hf]; rfl) (by rw [hf]; exact h)
theorem exec_built (t : TypeId) (parts : Array (Nat × Operand)) (ho : o.op = .build t parts) (vs : List (Nat × Value)) (cells : List Value) (hf : P.built t vs = some cells.toArray) (hv : (parts.toList.map fun x => (x.1, a.eval x.2)) = vs) :
    (execOp a.eval o).run P w = .ok (.value (.agg cells.toArray)) w := by
  have hv' : (parts.map fun (i, x) => (i, a.eval x)).toList = vs := by rw [Array.toList_map]; exact hv
  subst hv'
  unfold execOp
  simp only [ho, Sem.run_bind, run_build (P := P) w t _ _ hf, Result.andThen_ok, Sem.run_pure]
end
end Go.Isth
