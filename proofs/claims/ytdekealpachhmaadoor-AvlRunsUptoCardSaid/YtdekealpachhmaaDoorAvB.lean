/- Layer 7, plain: trees put right are balanced; how few keys a height bears. No program. -/
import Derived.Test.YtdekealpachhmaaDoorAvP
namespace Go.Isth
open Go Go.Op

namespace Av
/-- No part is higher than the one beside it by more than one. -/
def Bal : Av → Prop
  | leaf _ _ => True
  | node a b => a.Bal ∧ b.Bal ∧ a.height ≤ b.height + 1 ∧ b.height ≤ a.height + 1
theorem right_bal (a b : Av) (ha : a.Bal) (hb : b.Bal) (h1 : a.height ≤ b.height + 2) (h2 : b.height ≤ a.height + 2) :
    (right a b).Bal ∧ max a.height b.height ≤ (right a b).height ∧ (right a b).height ≤ 1 + max a.height b.height ∧ (a.height ≤ b.height + 1 → b.height ≤ a.height + 1 → (right a b).height = 1 + max a.height b.height) := by
  unfold right
  split
  · rename_i hd
    cases a with
    | leaf k v => have := b.height_pos; simp only [height] at hd; omega
    | node x y =>
      obtain ⟨hx, hy, hxy, hyx⟩ := ha
      simp only [height] at hd h1
      simp only
      split
      · rename_i hlt
        cases y with
        | leaf k v => have := x.height_pos; simp only [height] at hlt; omega
        | node y1 y2 =>
          obtain ⟨hy1, hy2, h12, h21⟩ := hy
          simp only [height] at *
          refine ⟨⟨⟨hx, hy1, ?_, ?_⟩, ⟨hy2, hb, ?_, ?_⟩, ?_, ?_⟩, ?_, ?_, ?_⟩ <;> (intros; (try simp only [height] at *); omega)
      · refine ⟨⟨hx, ⟨hy, hb, ?_, ?_⟩, ?_, ?_⟩, ?_, ?_, ?_⟩ <;> (intros; (try simp only [height] at *); omega)
  · split
    · rename_i _ hd
      cases b with
      | leaf k v => have := a.height_pos; simp only [height] at hd; omega
      | node x y =>
        obtain ⟨hx, hy, hxy, hyx⟩ := hb
        simp only [height] at hd h2
        simp only
        split
        · rename_i hlt
          cases x with
          | leaf k v => have := y.height_pos; simp only [height] at hlt; omega
          | node x1 x2 =>
            obtain ⟨hx1, hx2, h12, h21⟩ := hx
            simp only [height] at *
            refine ⟨⟨⟨ha, hx1, ?_, ?_⟩, ⟨hx2, hy, ?_, ?_⟩, ?_, ?_⟩, ?_, ?_, ?_⟩ <;> (intros; (try simp only [height] at *); omega)
        · refine ⟨⟨⟨ha, hx, ?_, ?_⟩, hy, ?_, ?_⟩, ?_, ?_, ?_⟩ <;> (intros; (try simp only [height] at *); omega)
    · exact ⟨⟨ha, hb, by omega, by omega⟩, by show _ ≤ 1 + max a.height b.height; omega, Nat.le_refl _, fun _ _ => rfl⟩
theorem set_bal (key value : Str) : ∀ t : Av, t.Bal → (t.set key value).Bal ∧ t.height ≤ (t.set key value).height ∧ (t.set key value).height ≤ t.height + 1
  | leaf k v, _ => by
    rw [set]
    split
    · refine ⟨⟨trivial, trivial, ?_, ?_⟩, ?_, ?_⟩ <;> (intros; (try simp only [height] at *); omega)
    · split
      · refine ⟨⟨trivial, trivial, ?_, ?_⟩, ?_, ?_⟩ <;> (intros; (try simp only [height] at *); omega)
      · exact ⟨trivial, Nat.le_refl _, Nat.le_succ _⟩
  | node a b, h => by
    obtain ⟨ha, hb, h1, h2⟩ := h
    rw [set]
    split
    · obtain ⟨s1, s2, s3⟩ := set_bal key value a ha
      obtain ⟨r1, r2, r3, r4⟩ := right_bal (set key value a) b s1 hb (by omega) (by omega)
      refine ⟨r1, ?_, ?_⟩
      · simp only [height]
        by_cases hq : (set key value a).height ≤ b.height + 1
        · rw [r4 hq (by omega)]; omega
        · omega
      · simp only [height]
        by_cases hq : (set key value a).height ≤ b.height + 1
        · rw [r4 hq (by omega)]; omega
        · omega
    · obtain ⟨s1, s2, s3⟩ := set_bal key value b hb
      obtain ⟨r1, r2, r3, r4⟩ := right_bal a (set key value b) ha s1 (by omega) (by omega)
      refine ⟨r1, ?_, ?_⟩
      · simp only [height]
        by_cases hq : (set key value b).height ≤ a.height + 1
        · rw [r4 (by omega) hq]; omega
        · omega
      · simp only [height]
        by_cases hq : (set key value b).height ≤ a.height + 1
        · rw [r4 (by omega) hq]; omega
        · omega
theorem drop_bal (key : Str) : ∀ t : Av, t.Bal → (t.drop key = none → t.height = 1) ∧ ∀ u, t.drop key = some u → u.Bal ∧ u.height ≤ t.height ∧ t.height ≤ u.height + 1
  | leaf k v, _ => ⟨fun _ => rfl, fun u h => by cases h⟩
  | node a b, h => by
    obtain ⟨ha, hb, h1, h2⟩ := h
    rw [drop]
    split
    · obtain ⟨s1, s2⟩ := drop_bal key a ha
      cases hd : a.drop key with
      | none =>
        have := s1 hd
        refine ⟨fun h => by simp at h, fun u hu => ?_⟩
        simp only [Option.some.injEq] at hu
        subst hu
        have p1 := b.height_pos
        exact ⟨hb, by show b.height ≤ 1 + max a.height b.height; omega, by show 1 + max a.height b.height ≤ b.height + 1; omega⟩
      | some a' =>
        obtain ⟨t1, t2, t3⟩ := s2 a' hd
        obtain ⟨r1, r2, r3, r4⟩ := right_bal a' b t1 hb (by omega) (by omega)
        refine ⟨fun h => by simp at h, fun u hu => ?_⟩
        simp only [Option.some.injEq] at hu
        subst hu
        refine ⟨r1, ?_, ?_⟩ <;> (intros; (try simp only [height] at *); omega)
    · obtain ⟨s1, s2⟩ := drop_bal key b hb
      cases hd : b.drop key with
      | none =>
        have := s1 hd
        refine ⟨fun h => by simp at h, fun u hu => ?_⟩
        simp only [Option.some.injEq] at hu
        subst hu
        have p1 := a.height_pos
        exact ⟨ha, by show a.height ≤ 1 + max a.height b.height; omega, by show 1 + max a.height b.height ≤ a.height + 1; omega⟩
      | some b' =>
        obtain ⟨t1, t2, t3⟩ := s2 b' hd
        obtain ⟨r1, r2, r3, r4⟩ := right_bal a b' ha t1 (by omega) (by omega)
        refine ⟨fun h => by simp at h, fun u hu => ?_⟩
        simp only [Option.some.injEq] at hu
        subst hu
        refine ⟨r1, ?_, ?_⟩ <;> (intros; (try simp only [height] at *); omega)
end Av
/-- The law's two numbers behind n rounds. -/
def fibP : Nat → Nat × Nat
  | 0 => (0, 1)
  | n + 1 => ((fibP n).2, max (fibP n).1 1 + (fibP n).2)
theorem fibP_fst (n : Nat) : (fibP (n + 1)).1 = (fibP n).2 := rfl
theorem fibP_pos (n : Nat) : 1 ≤ (fibP n).2 := by
  induction n with
  | zero => exact Nat.le_refl _
  | succ n ih => simp only [fibP]; omega
theorem fibP_mono1 (n : Nat) : (fibP n).2 ≤ (fibP (n + 1)).2 := by simp only [fibP]; omega
theorem fibP_mono {n m : Nat} (h : n ≤ m) : (fibP n).2 ≤ (fibP m).2 := by
  induction h with
  | refl => exact Nat.le_refl _
  | step _ ih => exact Nat.le_trans ih (fibP_mono1 _)
theorem fibP_many : ∀ t : Av, t.Bal → (fibP (t.height - 1)).2 ≤ t.many
  | .leaf _ _, _ => Nat.le_refl _
  | .node a b, h => by
    obtain ⟨ha, hb, h1, h2⟩ := h
    have ia := fibP_many a ha
    have ib := fibP_many b hb
    have pa := a.height_pos
    have pb := b.height_pos
    simp only [Av.height, Av.many]
    have key : ∀ (x y : Nat), 0 < x → 0 < y → y ≤ x → x ≤ y + 1 → (fibP x).2 ≤ (fibP (x - 1)).2 + (fibP (y - 1)).2 := by
      intro x y hx hy hyx hxy
      obtain ⟨n, rfl⟩ : ∃ n, x = n + 1 := ⟨x - 1, by omega⟩
      rw [Nat.add_sub_cancel]
      cases n with
      | zero => obtain rfl : y = 1 := by omega
                decide
      | succ n =>
        have e : (fibP (n + 1 + 1)).2 = max (fibP (n + 1)).1 1 + (fibP (n + 1)).2 := rfl
        rw [e, fibP_fst]
        have := fibP_mono (show n ≤ y - 1 by omega)
        have := fibP_pos n
        omega
    rcases Nat.le_total b.height a.height with hle | hle
    · rw [Nat.max_eq_left hle, Nat.add_comm 1, Nat.add_sub_cancel]
      have := key a.height b.height pa pb hle h1
      omega
    · rw [Nat.max_eq_right hle, Nat.add_comm 1, Nat.add_sub_cancel]
      have := key b.height a.height pb pa hle h2
      omega
end Go.Isth
