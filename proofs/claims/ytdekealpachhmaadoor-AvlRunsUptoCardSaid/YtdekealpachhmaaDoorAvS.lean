/- Layer 7, plain: a tree's sum, the pair at a place, the steps up from it. -/
import Derived.Test.YtdekealpachhmaaDoorAvB
import Derived.Test.YtdekealpachhmaaDoorShaP
import Derived.Test.YtdekealpachhmaaDoorPackP
namespace Go.Isth
open Go Go.Op

def textB (s : Str) : List UInt8 := varint s.length ++ s
def avLeaf (k v : Str) : List UInt8 := sumF (6 :: (textB k ++ textB v))
def avNode (n : Nat) (a : List UInt8) (m : Nat) (b : List UInt8) : List UInt8 := sumF (7 :: (varint n ++ (a ++ (varint m ++ b))))
theorem avLeaf_length (k v : Str) : (avLeaf k v).length = 32 := sumF_length _
theorem avNode_length (n : Nat) (a : List UInt8) (m : Nat) (b : List UInt8) : (avNode n a m b).length = 32 := sumF_length _
/-- A part beside the way down. -/
structure StepV where
  second : Bool
  many : Nat
  other : List UInt8
namespace Av
def sum : Av → List UInt8
  | leaf k v => avLeaf k v
  | node a b => avNode a.many a.sum b.many b.sum
theorem sum_length : ∀ t : Av, t.sum.length = 32
  | leaf _ _ => sumF_length _
  | node _ _ => sumF_length _
def at_ : Av → Nat → Str × Str
  | leaf k v, _ => (k, v)
  | node a b, i => if i < a.many then a.at_ i else b.at_ (i - a.many)
def path : Av → Nat → List StepV
  | leaf _ _, _ => []
  | node a b, i => if i < a.many then a.path i ++ [⟨false, b.many, b.sum⟩] else b.path (i - a.many) ++ [⟨true, a.many, a.sum⟩]
theorem at_pairs : ∀ (t : Av) (i : Nat), i < t.many → t.pairs[i]? = some (t.at_ i)
  | leaf k v, i, h => by
    simp only [many] at h
    obtain rfl : i = 0 := by omega
    rfl
  | node a b, i, h => by
    simp only [many] at h
    rw [pairs, at_]
    split
    · rename_i hi
      rw [List.getElem?_append_left (by rw [pairs_length]; exact hi)]
      exact at_pairs a i hi
    · rename_i hi
      rw [List.getElem?_append_right (by rw [pairs_length]; omega), pairs_length]
      exact at_pairs b (i - a.many) (by omega)
theorem path_height : ∀ (t : Av) (i : Nat), (t.path i).length + 1 ≤ t.height
  | leaf _ _, _ => Nat.le_refl _
  | node a b, i => by
    rw [path]
    have h1 := path_height a i
    have h2 := path_height b (i - a.many)
    simp only [height]
    split <;> (simp only [List.length_append, List.length_cons, List.length_nil]; omega)
end Av
/-- What a step brings up: a sum, how many keys, the place among them. -/
def upStep (x : List UInt8 × Nat × Nat) (s : StepV) : List UInt8 × Nat × Nat :=
  if s.second then (avNode s.many s.other x.2.1 x.1, x.2.1 + s.many, x.2.2 + s.many) else (avNode x.2.1 x.1 s.many s.other, x.2.1 + s.many, x.2.2)
theorem path_up : ∀ (t : Av) (i : Nat), i < t.many → (t.path i).foldl upStep (avLeaf (t.at_ i).1 (t.at_ i).2, 1, 0) = (t.sum, t.many, i)
  | .leaf k v, i, h => by
    simp only [Av.many] at h
    obtain rfl : i = 0 := by omega
    rfl
  | .node a b, i, h => by
    simp only [Av.many] at h
    rw [Av.path, Av.at_]
    split
    · rename_i hi
      rw [List.foldl_append, path_up a i hi]
      rfl
    · rename_i hi
      rw [List.foldl_append, path_up b (i - a.many) (by omega)]
      simp only [List.foldl_cons, List.foldl_nil, upStep, if_true, Av.sum, Av.many, Prod.mk.injEq, true_and]
      omega
/-- As many keys are less than the key at a place. -/
theorem sorted_place : ∀ (l : List (Str × Str)) (i : Nat) (x : Str × Str), Sorted l → l[i]? = some x → (l.filter fun y => bytesLess y.1 x.1).length = i
  | [], i, x, _, h => by simp at h
  | y :: l, 0, x, hs, h => by
    simp only [List.getElem?_cons_zero, Option.some.injEq] at h
    subst h
    obtain ⟨h1, h2⟩ := List.pairwise_cons.1 hs
    rw [List.filter_cons, if_neg (by rw [less_irrefl]; simp)]
    rw [List.length_eq_zero_iff, List.filter_eq_nil_iff]
    intro z hz
    rw [less_asymm (h1 z hz)]; simp
  | y :: l, i + 1, x, hs, h => by
    simp only [List.getElem?_cons_succ] at h
    obtain ⟨h1, h2⟩ := List.pairwise_cons.1 hs
    rw [List.filter_cons, if_pos (h1 x (List.mem_of_getElem? h)), List.length_cons, sorted_place l i x h2 h]
theorem find_at (t : Av) (i : Nat) (h : i < t.many) (hs : Sorted t.pairs) : t.find (t.at_ i).1 = i := by
  rw [find_pairs t _ hs]
  exact sorted_place _ i _ hs (t.at_pairs i h)
end Go.Isth
