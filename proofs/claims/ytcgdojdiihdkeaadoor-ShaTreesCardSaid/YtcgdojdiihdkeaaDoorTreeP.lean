/- Layer 1, plain: trees of sums: root, path, turns, fold, over any node. No program. -/
import Derived.Lib.BitFns
namespace Go.Isth
open Go

theorem bitLenAux_low : ∀ (f x : Nat), 0 < x → 2 ^ (Lib.bitLenAux f x - 1) ≤ x
  | 0, x, h => by show 1 ≤ x; exact h
  | f + 1, x, h => by
    rw [Lib.bitLenAux, if_neg (by omega)]
    rcases Nat.eq_zero_or_pos (x / 2) with h2 | h2
    · have e : Lib.bitLenAux f (x / 2) = 0 := by rw [h2]; cases f <;> simp [Lib.bitLenAux]
      rw [e]; exact h
    · have ih := bitLenAux_low f (x / 2) h2
      rcases Nat.eq_zero_or_pos (Lib.bitLenAux f (x / 2)) with e | e
      · rw [e]; exact h
      · rw [show 1 + Lib.bitLenAux f (x / 2) - 1 = (Lib.bitLenAux f (x / 2) - 1) + 1 from by omega, Nat.pow_succ]
        omega
theorem bitLenAux_high : ∀ (f x : Nat), x < 2 ^ f → x < 2 ^ Lib.bitLenAux f x
  | 0, x, h => by simpa [Lib.bitLenAux] using h
  | f + 1, x, h => by
    rw [Lib.bitLenAux]
    by_cases h0 : x = 0
    · rw [if_pos h0, h0]; decide
    · rw [if_neg h0]
      have ih := bitLenAux_high f (x / 2) (by rw [Nat.pow_succ] at h; omega)
      rw [Nat.add_comm, Nat.pow_succ]
      omega
/-- The greatest power of 2 below n (n above 1). -/
def halfN (n : Nat) : Nat := 2 ^ (Lib.bitLen (n - 1) - 1)
theorem halfN_pos (n : Nat) : 0 < halfN n := Nat.pow_pos (by decide)
theorem halfN_lt {n : Nat} (h : 1 < n) : halfN n < n := by
  have := bitLenAux_low 64 (n - 1) (by omega)
  unfold halfN Lib.bitLen; omega
theorem halfN_two {n : Nat} (h : 1 < n) (h2 : n ≤ 18446744073709551616) : n ≤ 2 * halfN n := by
  have h1 := bitLenAux_high 64 (n - 1) (by omega)
  unfold halfN Lib.bitLen
  rcases Nat.eq_zero_or_pos (Lib.bitLenAux 64 (n - 1)) with e | e
  · rw [e] at h1; simp at h1; omega
  · rw [show Lib.bitLenAux 64 (n - 1) = (Lib.bitLenAux 64 (n - 1) - 1) + 1 from by omega, Nat.pow_succ] at h1
    omega
theorem halfN_depth {n d : Nat} (h : 1 < n) (h2 : n ≤ 2 ^ (d + 1)) : halfN n ≤ 2 ^ d := by
  have h3 := halfN_lt h
  unfold halfN at *
  have h4 : 2 ^ (Lib.bitLen (n - 1) - 1) < 2 ^ (d + 1) := by omega
  have h5 := (Nat.pow_lt_pow_iff_right (by decide : 1 < 2)).1 h4
  exact Nat.pow_le_pow_right (by decide) (by omega)

section
variable {α : Type} (node : α → α → α) (z : α)
/-- The root of a tree of leaves. -/
def rootG (l : List α) : α :=
  if _h : 1 < l.length then node (rootG (l.take (halfN l.length))) (rootG (l.drop (halfN l.length))) else l.headD z
termination_by l.length
decreasing_by
  · have := halfN_lt _h; rw [List.length_take]; omega
  · have := halfN_pos l.length; rw [List.length_drop]; omega
/-- What proves that a leaf stands at a place. -/
def pathG (l : List α) (i : Nat) : List α :=
  if _h : 1 < l.length then
    if i < halfN l.length then pathG (l.take (halfN l.length)) i ++ [rootG node z (l.drop (halfN l.length))]
    else pathG (l.drop (halfN l.length)) (i - halfN l.length) ++ [rootG node z (l.take (halfN l.length))]
  else []
termination_by l.length
decreasing_by
  · have := halfN_lt _h; rw [List.length_take]; omega
  · have := halfN_pos l.length; rw [List.length_drop]; omega
/-- Whether it stands in the second part, from the root down. -/
def turnsG (i n : Nat) : List Bool :=
  if _h : 1 < n then
    if halfN n ≤ i then true :: turnsG (i - halfN n) (n - halfN n) else false :: turnsG i (halfN n)
  else []
termination_by n
decreasing_by
  · have := halfN_pos n; omega
  · exact halfN_lt _h
/-- What a leaf and its path make. -/
def foldG : α → List Bool → List α → α
  | x, t :: ts, p :: ps => foldG (if t then node p x else node x p) ts ps
  | x, _, _ => x
variable {node z}
theorem rootG_two {l : List α} (h : 1 < l.length) : rootG node z l = node (rootG node z (l.take (halfN l.length))) (rootG node z (l.drop (halfN l.length))) := by
  conv => lhs; rw [rootG]
  rw [dif_pos h]
theorem rootG_one {l : List α} (h : ¬ 1 < l.length) : rootG node z l = l.headD z := by
  conv => lhs; rw [rootG]
  rw [dif_neg h]
theorem pathG_left {l : List α} {i : Nat} (h : 1 < l.length) (hi : i < halfN l.length) : pathG node z l i = pathG node z (l.take (halfN l.length)) i ++ [rootG node z (l.drop (halfN l.length))] := by
  conv => lhs; rw [pathG]
  rw [dif_pos h, if_pos hi]
theorem pathG_right {l : List α} {i : Nat} (h : 1 < l.length) (hi : ¬ i < halfN l.length) : pathG node z l i = pathG node z (l.drop (halfN l.length)) (i - halfN l.length) ++ [rootG node z (l.take (halfN l.length))] := by
  conv => lhs; rw [pathG]
  rw [dif_pos h, if_neg hi]
theorem pathG_one {l : List α} {i : Nat} (h : ¬ 1 < l.length) : pathG node z l i = [] := by
  rw [pathG, dif_neg h]
theorem turnsG_right {i n : Nat} (h : 1 < n) (hi : halfN n ≤ i) : turnsG i n = true :: turnsG (i - halfN n) (n - halfN n) := by
  conv => lhs; rw [turnsG]
  rw [dif_pos h, if_pos hi]
theorem turnsG_left {i n : Nat} (h : 1 < n) (hi : ¬ halfN n ≤ i) : turnsG i n = false :: turnsG i (halfN n) := by
  conv => lhs; rw [turnsG]
  rw [dif_pos h, if_neg hi]
theorem turnsG_one {i n : Nat} (h : ¬ 1 < n) : turnsG i n = [] := by
  rw [turnsG, dif_neg h]
theorem foldG_snoc (t : Bool) (p : α) : ∀ (ts : List Bool) (ps : List α) (x : α), ts.length = ps.length → foldG node x (ts ++ [t]) (ps ++ [p]) = if t then node p (foldG node x ts ps) else node (foldG node x ts ps) p
  | [], [], x, _ => rfl
  | a :: ts, q :: ps, x, h => by
    simp only [List.cons_append, foldG]
    exact foldG_snoc t p ts ps _ (by simpa using h)
  | [], _ :: _, _, h => by simp at h
  | _ :: _, [], _, h => by simp at h
theorem path_turns : ∀ (n : Nat) (l : List α) (i : Nat), l.length = n → i < n → (pathG node z l i).length = (turnsG i n).length := by
  intro n
  induction n using Nat.strongRecOn with
  | _ n ih =>
    intro l i hl hi
    subst hl
    by_cases h : 1 < l.length
    · have h1 := halfN_lt h
      have h2 := halfN_pos l.length
      by_cases hk : halfN l.length ≤ i
      · rw [pathG_right h (by omega), turnsG_right h hk, List.length_append, List.length_cons, ih (l.length - halfN l.length) (by omega) _ _ (by rw [List.length_drop]) (by omega)]; rfl
      · rw [pathG_left h (by omega), turnsG_left h hk, List.length_append, List.length_cons, ih (halfN l.length) h1 _ _ (by rw [List.length_take]; omega) (by omega)]; rfl
    · rw [pathG_one h, turnsG_one h]; rfl
theorem fold_path : ∀ (n : Nat) (l : List α) (i : Nat) (x : α), l.length = n → l[i]? = some x → foldG node x (turnsG i n).reverse (pathG node z l i) = rootG node z l := by
  intro n
  induction n using Nat.strongRecOn with
  | _ n ih =>
    intro l i x hl hx
    have hi : i < n := by rw [← hl]; exact (List.getElem?_eq_some_iff.1 hx).1
    subst hl
    by_cases h : 1 < l.length
    · have h1 := halfN_lt h
      have h2 := halfN_pos l.length
      rw [rootG_two h]
      by_cases hk : halfN l.length ≤ i
      · rw [pathG_right h (by omega), turnsG_right h hk, List.reverse_cons, foldG_snoc, if_pos rfl, ih (l.length - halfN l.length) (by omega) _ _ x (by rw [List.length_drop]) (by rw [List.getElem?_drop, ← hx]; congr 1; omega)]
        rw [List.length_reverse, path_turns (l.length - halfN l.length) _ _ (by rw [List.length_drop]) (by omega)]
      · rw [pathG_left h (by omega), turnsG_left h hk, List.reverse_cons, foldG_snoc, if_neg (by simp), ih (halfN l.length) h1 _ _ x (by rw [List.length_take]; omega) (by rw [List.getElem?_take]; rw [if_pos (by omega)]; exact hx)]
        rw [List.length_reverse, path_turns (halfN l.length) _ _ (by rw [List.length_take]; omega) (by omega)]
    · rw [pathG_one h, turnsG_one h, rootG_one h]
      match l, hi, hx with
      | [a], hi, hx =>
        obtain rfl : i = 0 := by simp at hi; omega
        have e : x = a := by simpa using hx.symm
        subst e
        rfl
      | [], hi, _ => simp at hi
      | _ :: _ :: _, _, _ => simp at h
theorem turns_depth : ∀ (d n i : Nat), n ≤ 2 ^ d → n ≤ 18446744073709551616 → (turnsG i n).length ≤ d
  | 0, n, i, h, _ => by
    rw [turnsG_one (by simp at h; omega)]; simp
  | d + 1, n, i, h, h2 => by
    by_cases h1 : 1 < n
    · have hk := halfN_depth h1 h
      have ht := halfN_two h1 h2
      have hp := halfN_lt h1
      by_cases hi : halfN n ≤ i
      · rw [turnsG_right h1 hi, List.length_cons]
        have := turns_depth d (n - halfN n) (i - halfN n) (by omega) (by omega); omega
      · rw [turnsG_left h1 hi, List.length_cons]
        have := turns_depth d (halfN n) i hk (by omega); omega
    · rw [turnsG_one h1]; simp
end
#print axioms turns_depth
#print axioms fold_path
end Go.Isth
