/- Layer 7, plain: ordered trees of leaves, put right; their pairs in order. No program. -/
import GoSem.Op.String
namespace Go.Isth
open Go Go.Op

/-- Keys and values. -/
abbrev Str := List UInt8
theorem less_irrefl : ∀ a : Str, bytesLess a a = false
  | [] => rfl
  | x :: a => by
    have := less_irrefl a
    simp [bytesLess, this]
theorem less_trans : ∀ {a b c : Str}, bytesLess a b = true → bytesLess b c = true → bytesLess a c = true
  | _, [], _, h, _ => by cases ‹Str› <;> simp [bytesLess] at h
  | _, _ :: _, [], _, h => by simp [bytesLess] at h
  | [], y :: b, z :: c, _, _ => rfl
  | x :: a, y :: b, z :: c, h1, h2 => by
    simp only [bytesLess, Bool.or_eq_true, decide_eq_true_eq, Bool.and_eq_true, beq_iff_eq] at h1 h2 ⊢
    rcases h1 with h1 | ⟨rfl, h1⟩
    · rcases h2 with h2 | ⟨rfl, h2⟩
      · exact .inl (UInt8.lt_trans h1 h2)
      · exact .inl h1
    · rcases h2 with h2 | ⟨rfl, h2⟩
      · exact .inl h2
      · exact .inr ⟨rfl, less_trans h1 h2⟩
theorem less_tri : ∀ a b : Str, bytesLess a b = true ∨ a = b ∨ bytesLess b a = true
  | [], [] => .inr (.inl rfl)
  | [], _ :: _ => .inl rfl
  | _ :: _, [] => .inr (.inr rfl)
  | x :: a, y :: b => by
    simp only [bytesLess, Bool.or_eq_true, decide_eq_true_eq, Bool.and_eq_true, beq_iff_eq, List.cons.injEq]
    rcases UInt8.lt_or_lt_of_ne (a := x) (b := y) |> fun h => (Classical.em (x = y)).imp id h with rfl | h | h
    · rcases less_tri a b with h | rfl | h
      · exact .inl (.inr ⟨rfl, h⟩)
      · exact .inr (.inl ⟨rfl, rfl⟩)
      · exact .inr (.inr (.inr ⟨rfl, h⟩))
    · exact .inl (.inl h)
    · exact .inr (.inr (.inl h))
theorem less_asymm {a b : Str} (h : bytesLess a b = true) : bytesLess b a = false := by
  rcases hb : bytesLess b a with _ | _
  · rfl
  · have := less_trans h hb
    rw [less_irrefl] at this; cases this
/-- A tree that has keys. -/
inductive Av where
  | leaf (k v : Str)
  | node (a b : Av)
namespace Av
def least : Av → Str
  | leaf k _ => k
  | node a _ => a.least
def many : Av → Nat
  | leaf _ _ => 1
  | node a b => a.many + b.many
def height : Av → Nat
  | leaf _ _ => 1
  | node a b => 1 + max a.height b.height
def pairs : Av → List (Str × Str)
  | leaf k v => [(k, v)]
  | node a b => a.pairs ++ b.pairs
theorem many_pos : ∀ t : Av, 0 < t.many
  | leaf _ _ => Nat.one_pos
  | node a b => by have := many_pos a; simp only [many]; omega
theorem height_pos : ∀ t : Av, 0 < t.height
  | leaf _ _ => Nat.one_pos
  | node a b => by simp only [height]; omega
theorem pairs_length : ∀ t : Av, t.pairs.length = t.many
  | leaf _ _ => rfl
  | node a b => by rw [pairs, List.length_append, pairs_length a, pairs_length b]; rfl
theorem pairs_head : ∀ t : Av, ∃ v r, t.pairs = (t.least, v) :: r
  | leaf k v => ⟨v, [], rfl⟩
  | node a b => by
    obtain ⟨v, r, h⟩ := pairs_head a
    exact ⟨v, r ++ b.pairs, by rw [pairs, h]; rfl⟩
/-- A node of two parts, put right. -/
def right (a b : Av) : Av :=
  if b.height + 1 < a.height then
    match a with
    | node x y => if x.height < y.height then (match y with | node y1 y2 => node (node x y1) (node y2 b) | leaf _ _ => node x (node y b)) else node x (node y b)
    | leaf _ _ => node a b
  else if a.height + 1 < b.height then
    match b with
    | node x y => if y.height < x.height then (match x with | node x1 x2 => node (node a x1) (node x2 y) | leaf _ _ => node (node a x) y) else node (node a x) y
    | leaf _ _ => node a b
  else node a b
theorem pairs_right (a b : Av) : (right a b).pairs = a.pairs ++ b.pairs := by
  unfold right
  split
  · cases a with
    | leaf => rfl
    | node x y =>
      simp only
      split
      · cases y <;> simp [pairs]
      · simp [pairs]
  · split
    · cases b with
      | leaf => rfl
      | node x y =>
        simp only
        split
        · cases x <;> simp [pairs]
        · simp [pairs]
    · rfl
theorem least_right (a b : Av) : (right a b).least = a.least := by
  obtain ⟨v, r, h⟩ := pairs_head (right a b)
  obtain ⟨v', r', h'⟩ := pairs_head a
  rw [pairs_right, h'] at h
  simp only [List.cons_append, List.cons.injEq, Prod.mk.injEq] at h
  exact h.1.1.symm
theorem many_right (a b : Av) : (right a b).many = a.many + b.many := by
  rw [← pairs_length, pairs_right, List.length_append, pairs_length, pairs_length]
/-- A tree with a key's value. -/
def set (key value : Str) : Av → Av
  | leaf k v => if bytesLess key k then node (leaf key value) (leaf k v) else if bytesLess k key then node (leaf k v) (leaf key value) else leaf key value
  | node a b => if bytesLess key b.least then right (set key value a) b else right a (set key value b)
/-- A tree without a key (nothing is left: none). -/
def drop (key : Str) : Av → Option Av
  | leaf _ _ => none
  | node a b =>
    if bytesLess key b.least then (match drop key a with | none => some b | some a' => some (right a' b))
    else (match drop key b with | none => some a | some b' => some (right a b'))
def get (key : Str) : Av → Option Str
  | leaf k v => if k = key then some v else none
  | node a b => if bytesLess key b.least then get key a else get key b
def find (key : Str) : Av → Nat
  | leaf k _ => if bytesLess k key then 1 else 0
  | node a b => if bytesLess key b.least then find key a else a.many + find key b
end Av
/-- Nothing, or a tree. -/
def setO (key value : Str) : Option Av → Av
  | none => .leaf key value
  | some t => t.set key value
def getO (key : Str) : Option Av → Option Str
  | none => none
  | some t => t.get key
def dropO (key : Str) (t : Option Av) : Option Av :=
  match t with
  | none => none
  | some t => match t.get key with
    | none => some t
    | some _ => t.drop key
def pairsO : Option Av → List (Str × Str)
  | none => []
  | some t => t.pairs
def manyO : Option Av → Nat
  | none => 0
  | some t => t.many
def heightO : Option Av → Nat
  | none => 0
  | some t => t.height
def findO (key : Str) : Option Av → Nat
  | none => 0
  | some t => t.find key
/-- Keys in order, each once. -/
def Sorted (l : List (Str × Str)) : Prop := l.Pairwise fun x y => bytesLess x.1 y.1 = true
theorem Sorted.append {l m : List (Str × Str)} : Sorted (l ++ m) ↔ Sorted l ∧ Sorted m ∧ ∀ x ∈ l, ∀ y ∈ m, bytesLess x.1 y.1 = true := List.pairwise_append
theorem sorted_node {a b : Av} (h : Sorted (Av.node a b).pairs) : Sorted a.pairs ∧ Sorted b.pairs ∧ (∀ x ∈ a.pairs, bytesLess x.1 b.least = true) ∧ (∀ y ∈ b.pairs, bytesLess y.1 b.least = false) := by
  obtain ⟨h1, h2, h3⟩ := Sorted.append.1 h
  obtain ⟨v, r, hb⟩ := b.pairs_head
  refine ⟨h1, h2, fun x hx => h3 x hx (b.least, v) (by rw [hb]; exact List.mem_cons_self ..), fun y hy => ?_⟩
  rw [hb] at hy h2
  rcases List.mem_cons.1 hy with rfl | hy
  · exact less_irrefl _
  · exact less_asymm ((List.pairwise_cons.1 h2).1 y hy)
/-- What is less than the second part's first key is looked for in the first part. -/
theorem get_pairs : ∀ (t : Av) (key : Str), Sorted t.pairs → ∀ v, t.get key = some v ↔ (key, v) ∈ t.pairs
  | .leaf k v, key, _, u => by
    simp only [Av.get, Av.pairs, List.mem_singleton, Prod.mk.injEq]
    split
    · rename_i h; subst h; simp [eq_comm]
    · rename_i h; simp only [reduceCtorEq, false_iff]; rintro ⟨rfl, _⟩; exact h rfl
  | .node a b, key, h, u => by
    obtain ⟨h1, h2, h3, h4⟩ := sorted_node h
    rw [Av.get, Av.pairs, List.mem_append]
    split
    · rename_i hl
      rw [get_pairs a key h1]
      exact ⟨.inl, fun h => h.elim id (fun h => by have := h4 _ h; rw [hl] at this; cases this)⟩
    · rename_i hl
      rw [get_pairs b key h2]
      exact ⟨.inr, fun h => h.elim (fun h => absurd (h3 _ h) hl) id⟩
theorem set_pairs_mem : ∀ (t : Av) (key value : Str), Sorted t.pairs → Sorted (t.set key value).pairs ∧ ∀ x, x ∈ (t.set key value).pairs ↔ x = (key, value) ∨ (x ∈ t.pairs ∧ x.1 ≠ key)
  | .leaf k v, key, value, _ => by
    rw [Av.set]
    split
    · rename_i h
      refine ⟨by simpa [Av.pairs, Sorted] using h, fun x => ?_⟩
      simp only [Av.pairs, List.singleton_append, List.mem_cons, List.not_mem_nil, or_false]
      constructor
      · rintro (rfl | rfl)
        · exact .inl rfl
        · exact .inr ⟨rfl, fun e => by simp only at e; subst e; rw [less_irrefl] at h; cases h⟩
      · rintro (rfl | ⟨rfl, _⟩)
        · exact .inl rfl
        · exact .inr rfl
    · split
      · rename_i _ h
        refine ⟨by simpa [Av.pairs, Sorted] using h, fun x => ?_⟩
        simp only [Av.pairs, List.singleton_append, List.mem_cons, List.not_mem_nil, or_false]
        constructor
        · rintro (rfl | rfl)
          · exact .inr ⟨rfl, fun e => by simp only at e; subst e; rw [less_irrefl] at h; cases h⟩
          · exact .inl rfl
        · rintro (rfl | ⟨rfl, _⟩)
          · exact .inr rfl
          · exact .inl rfl
      · rename_i h1 h2
        have hk : k = key := by
          rcases less_tri key k with h | h | h
          · exact absurd h h1
          · exact h.symm
          · exact absurd h h2
        refine ⟨by simp [Av.pairs, Sorted], fun x => ?_⟩
        simp only [Av.pairs, List.mem_singleton]
        constructor
        · exact .inl
        · rintro (h | ⟨rfl, h⟩)
          · exact h
          · exact absurd hk h
  | .node a b, key, value, h => by
    obtain ⟨h1, h2, h3, h4⟩ := sorted_node h
    obtain ⟨_, _, hab⟩ := Sorted.append.1 h
    rw [Av.set]
    split
    · rename_i hl
      obtain ⟨s1, m1⟩ := set_pairs_mem a key value h1
      rw [Av.pairs_right]
      have hkb : ∀ y ∈ b.pairs, bytesLess key y.1 = true := fun y hy => by
        rcases less_tri b.least y.1 with h | h | h
        · exact less_trans hl h
        · rw [← h]; exact hl
        · have := h4 y hy; rw [h] at this; cases this
      refine ⟨Sorted.append.2 ⟨s1, h2, fun x hx y hy => ?_⟩, fun x => ?_⟩
      · rcases (m1 x).1 hx with rfl | ⟨hx, _⟩
        · exact hkb y hy
        · exact hab x hx y hy
      · rw [List.mem_append, m1, Av.pairs, List.mem_append]
        constructor
        · rintro ((h | ⟨h, h'⟩) | h)
          · exact .inl h
          · exact .inr ⟨.inl h, h'⟩
          · exact .inr ⟨.inr h, fun e => by have := hkb x h; rw [e, less_irrefl] at this; cases this⟩
        · rintro (h | ⟨h | h, h'⟩)
          · exact .inl (.inl h)
          · exact .inl (.inr ⟨h, h'⟩)
          · exact .inr h
    · rename_i hl
      obtain ⟨s2, m2⟩ := set_pairs_mem b key value h2
      rw [Av.pairs_right]
      have hka : ∀ x ∈ a.pairs, bytesLess x.1 key = true := fun x hx => by
        rcases less_tri b.least key with h | h | h
        · exact less_trans (h3 x hx) h
        · rw [← h]; exact h3 x hx
        · exact absurd h hl
      refine ⟨Sorted.append.2 ⟨h1, s2, fun x hx y hy => ?_⟩, fun x => ?_⟩
      · rcases (m2 y).1 hy with rfl | ⟨hy, _⟩
        · exact hka x hx
        · exact hab x hx y hy
      · rw [List.mem_append, m2, Av.pairs, List.mem_append]
        constructor
        · rintro (h | h | ⟨h, h'⟩)
          · exact .inr ⟨.inl h, fun e => by have := hka x h; rw [e, less_irrefl] at this; cases this⟩
          · exact .inl h
          · exact .inr ⟨.inr h, h'⟩
        · rintro (h | ⟨h | h, h'⟩)
          · exact .inr (.inl h)
          · exact .inl h
          · exact .inr (.inr ⟨h, h'⟩)
theorem drop_pairs_mem : ∀ (t : Av) (key : Str), Sorted t.pairs → (t.get key ≠ none) → Sorted (pairsO (t.drop key)) ∧ ∀ x, x ∈ pairsO (t.drop key) ↔ (x ∈ t.pairs ∧ x.1 ≠ key)
  | .leaf k v, key, _, hg => by
    rw [Av.drop]
    refine ⟨by simp [pairsO, Sorted], fun x => ?_⟩
    simp only [pairsO, List.not_mem_nil, Av.pairs, List.mem_singleton, false_iff]
    rintro ⟨rfl, h⟩
    apply hg
    rw [Av.get, if_neg h]
  | .node a b, key, h, hg => by
    obtain ⟨h1, h2, h3, h4⟩ := sorted_node h
    obtain ⟨_, _, hab⟩ := Sorted.append.1 h
    rw [Av.get] at hg
    rw [Av.drop]
    split
    · rename_i hl
      rw [if_pos hl] at hg
      obtain ⟨s1, m1⟩ := drop_pairs_mem a key h1 hg
      have hkb : ∀ y ∈ b.pairs, y.1 ≠ key := fun y hy e => by have := h4 y hy; rw [e, hl] at this; cases this
      have key1 : Sorted (pairsO (a.drop key) ++ b.pairs) ∧ ∀ x, x ∈ pairsO (a.drop key) ++ b.pairs ↔ (x ∈ (Av.node a b).pairs ∧ x.1 ≠ key) := by
        refine ⟨Sorted.append.2 ⟨s1, h2, fun x hx y hy => hab x ((m1 x).1 hx).1 y hy⟩, fun x => ?_⟩
        rw [List.mem_append, m1, Av.pairs, List.mem_append]
        constructor
        · rintro (⟨h, h'⟩ | h)
          · exact ⟨.inl h, h'⟩
          · exact ⟨.inr h, hkb x h⟩
        · rintro ⟨h | h, h'⟩
          · exact .inl ⟨h, h'⟩
          · exact .inr h
      cases hd : a.drop key with
      | none => rw [hd] at key1; simpa [pairsO] using key1
      | some a' => rw [hd] at key1; simpa [pairsO, Av.pairs_right] using key1
    · rename_i hl
      rw [if_neg hl] at hg
      obtain ⟨s2, m2⟩ := drop_pairs_mem b key h2 hg
      have hka : ∀ x ∈ a.pairs, x.1 ≠ key := fun x hx e => by have := h3 x hx; rw [e] at this; exact hl this
      have key2 : Sorted (a.pairs ++ pairsO (b.drop key)) ∧ ∀ x, x ∈ a.pairs ++ pairsO (b.drop key) ↔ (x ∈ (Av.node a b).pairs ∧ x.1 ≠ key) := by
        refine ⟨Sorted.append.2 ⟨h1, s2, fun x hx y hy => hab x hx y ((m2 y).1 hy).1⟩, fun x => ?_⟩
        rw [List.mem_append, m2, Av.pairs, List.mem_append]
        constructor
        · rintro (h | ⟨h, h'⟩)
          · exact ⟨.inl h, hka x h⟩
          · exact ⟨.inr h, h'⟩
        · rintro ⟨h | h, h'⟩
          · exact .inl h
          · exact .inr ⟨h, h'⟩
      cases hd : b.drop key with
      | none => rw [hd] at key2; simpa [pairsO] using key2
      | some b' => rw [hd] at key2; simpa [pairsO, Av.pairs_right] using key2
/-- The keys that are less than one are counted. -/
theorem find_pairs : ∀ (t : Av) (key : Str), Sorted t.pairs → t.find key = (t.pairs.filter fun x => bytesLess x.1 key).length
  | .leaf k v, key, _ => by
    simp only [Av.find, Av.pairs]
    split
    · rename_i h; simp [h]
    · rename_i h; simp [h]
  | .node a b, key, h => by
    obtain ⟨h1, h2, h3, h4⟩ := sorted_node h
    rw [Av.find, Av.pairs, List.filter_append, List.length_append]
    split
    · rename_i hl
      rw [find_pairs a key h1]
      have : b.pairs.filter (fun x => bytesLess x.1 key) = [] := by
        rw [List.filter_eq_nil_iff]
        intro y hy hlt
        have := h4 y hy
        rw [less_trans hlt hl] at this; cases this
      rw [this]; rfl
    · rename_i hl
      rw [find_pairs b key h2]
      have : a.pairs.filter (fun x => bytesLess x.1 key) = a.pairs := by
        rw [List.filter_eq_self]
        intro x hx
        rcases less_tri b.least key with h | h | h
        · exact less_trans (h3 x hx) h
        · rw [← h]; exact h3 x hx
        · exact absurd h hl
      rw [this, Av.pairs_length]
end Go.Isth
