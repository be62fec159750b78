/- Layer 7, plain: how many keys; what is put right, case by case; what a drop is on both sides of a node. No program. -/
import Derived.Test.YtdekealpachhmaaDoorAvS
namespace Go.Isth
open Go Go.Op
namespace Av
theorem height_many : ∀ t : Av, t.height ≤ t.many
  | leaf _ _ => Nat.le_refl _
  | node a b => by
    have := height_many a
    have := height_many b
    have := a.many_pos
    have := b.many_pos
    simp only [height, many]
    omega
theorem many_set (key value : Str) : ∀ t : Av, (t.set key value).many ≤ t.many + 1
  | leaf k v => by
    unfold set
    split
    · simp only [many]; omega
    · split <;> (simp only [many]; omega)
  | node a b => by
    unfold set
    have h1 := many_set key value a
    have h2 := many_set key value b
    split <;> (rw [many_right]; simp only [many]; omega)
theorem many_drop (key : Str) : ∀ t : Av, manyO (t.drop key) ≤ t.many
  | leaf k v => Nat.zero_le _
  | node a b => by
    have h1 := many_drop key a
    have h2 := many_drop key b
    unfold drop
    split
    · cases hd : a.drop key with
      | none => simp only [manyO, many]; omega
      | some a' => rw [hd] at h1; simp only [manyO] at h1 ⊢; rw [many_right]; simp only [many]; omega
    · cases hd : b.drop key with
      | none => simp only [manyO, many]; omega
      | some b' => rw [hd] at h2; simp only [manyO] at h2 ⊢; rw [many_right]; simp only [many]; omega
theorem right_aa (x y1 y2 b : Av) (h1 : b.height + 1 < (node x (node y1 y2)).height) (h2 : x.height < (node y1 y2).height) : right (node x (node y1 y2)) b = node (node x y1) (node y2 b) := by
  unfold right; rw [if_pos h1]; simp only [if_pos h2]
theorem right_ab (x y b : Av) (h1 : b.height + 1 < (node x y).height) (h2 : ¬ x.height < y.height) : right (node x y) b = node x (node y b) := by
  unfold right; rw [if_pos h1]; simp only [if_neg h2]
theorem right_ba (a x1 x2 y : Av) (h0 : ¬ (node (node x1 x2) y).height + 1 < a.height) (h1 : a.height + 1 < (node (node x1 x2) y).height) (h2 : y.height < (node x1 x2).height) : right a (node (node x1 x2) y) = node (node a x1) (node x2 y) := by
  unfold right; rw [if_neg h0, if_pos h1]; simp only [if_pos h2]
theorem right_bb (a x y : Av) (h0 : ¬ (node x y).height + 1 < a.height) (h1 : a.height + 1 < (node x y).height) (h2 : ¬ y.height < x.height) : right a (node x y) = node (node a x) y := by
  unfold right; rw [if_neg h0, if_pos h1]; simp only [if_neg h2]
theorem right_cc (a b : Av) (h0 : ¬ b.height + 1 < a.height) (h1 : ¬ a.height + 1 < b.height) : right a b = node a b := by
  unfold right; rw [if_neg h0, if_neg h1]
end Av
def joinO : Option Av → Option Av → Option Av
  | none, y => y
  | some x, none => some x
  | some x, some y => some (Av.right x y)
theorem get_none {t : Av} {key : Str} (hs : Sorted t.pairs) (h : ∀ v, (key, v) ∉ t.pairs) : t.get key = none := by
  cases hg : t.get key with
  | none => rfl
  | some v => exact absurd ((get_pairs t key hs v).1 hg) (h v)
/-- Of a node both parts are rid of the key, which is in one of them. -/
theorem drop_join {a b : Av} {key : Str} (hs : Sorted (Av.node a b).pairs) (hg : (Av.node a b).get key ≠ none) :
    (Av.node a b).drop key = joinO (dropO key (some a)) (dropO key (some b)) := by
  obtain ⟨h1, h2, h3, h4⟩ := sorted_node hs
  rw [Av.get] at hg
  rw [Av.drop]
  split
  · rename_i hl
    rw [if_pos hl] at hg
    have hb : b.get key = none := get_none h2 fun v hv => by have := h4 _ hv; rw [hl] at this; cases this
    obtain ⟨v, hv⟩ := Option.ne_none_iff_exists'.1 hg
    simp only [dropO, hb, hv]
    cases a.drop key <;> rfl
  · rename_i hl
    rw [if_neg hl] at hg
    have ha : a.get key = none := get_none h1 fun v hv => hl (h3 _ hv)
    obtain ⟨v, hv⟩ := Option.ne_none_iff_exists'.1 hg
    simp only [dropO, ha, hv]
    cases b.drop key <;> rfl
/-- What all grown trees are. -/
def Good : Option Av → Prop
  | none => True
  | some t => t.Bal ∧ Sorted t.pairs
theorem good_set {t : Option Av} (key value : Str) (h : Good t) : Good (some (setO key value t)) := by
  cases t with
  | none => exact ⟨trivial, by simp [Sorted, setO, Av.pairs]⟩
  | some t => exact ⟨(Av.set_bal key value t h.1).1, (set_pairs_mem t key value h.2).1⟩
theorem good_drop {t : Option Av} (key : Str) (h : Good t) : Good (dropO key t) := by
  cases t with
  | none => exact trivial
  | some t =>
    unfold dropO
    cases hg : t.get key with
    | none => simp only [hg]; exact h
    | some v =>
      have hs := (drop_pairs_mem t key h.2 (by rw [hg]; simp)).1
      cases hd : t.drop key with
      | none => simp only [hg, hd]; exact trivial
      | some u => simp only [hg, hd]; rw [hd] at hs; exact ⟨((Av.drop_bal key t h.1).2 u hd).1, hs⟩
theorem many_setO (key value : Str) (t : Option Av) : (setO key value t).many ≤ manyO t + 1 := by
  cases t with
  | none => exact Nat.le_refl _
  | some t => exact Av.many_set key value t
theorem many_dropO (key : Str) (t : Option Av) : manyO (dropO key t) ≤ manyO t := by
  cases t with
  | none => exact Nat.le_refl _
  | some t =>
    unfold dropO
    cases hg : t.get key with
    | none => simp only [hg]; exact Nat.le_refl _
    | some v => simp only [hg]; exact Av.many_drop key t
end Go.Isth
