/- Layer 5, plain: digits, chains of sums, what signs and what checks. No program. -/
import Derived.Test.YtcgdojdiihdkeaaDoorShaP
import Derived.Test.YtcgdojdiihdkeaaDoorPackP
namespace Go.Isth
open Go

def dg2 (c : UInt8) : List Nat := [c.toNat / 16, c.toNat % 16]
def dgs (d : List UInt8) : List Nat := d.flatMap dg2
def lackL : List Nat → Nat
  | [] => 0
  | x :: l => (15 - x) + lackL l
/-- How far each chain goes. -/
def digitsW (d : List UInt8) : List Nat := dgs d ++ [lackL (dgs d) / 256 % 16, lackL (dgs d) / 16 % 16, lackL (dgs d) % 16]
theorem dgs_length : ∀ d : List UInt8, (dgs d).length = 2 * d.length
  | [] => rfl
  | c :: d => by
    have := dgs_length d
    simp only [dgs, List.flatMap_cons, List.length_append, dg2, List.length_cons, List.length_nil] at this ⊢
    omega
theorem digitsW_length (d : List UInt8) : (digitsW d).length = 2 * d.length + 3 := by
  simp only [digitsW, List.length_append, dgs_length, List.length_cons, List.length_nil]
theorem dgs_le (d : List UInt8) : ∀ x ∈ dgs d, x ≤ 15 := by
  intro x hx
  obtain ⟨c, _, hc⟩ := List.mem_flatMap.1 hx
  have := c.toNat_lt
  simp only [dg2, List.mem_cons, List.not_mem_nil, or_false] at hc
  rcases hc with rfl | rfl <;> omega
theorem digitsW_le (d : List UInt8) : ∀ x ∈ digitsW d, x ≤ 15 := by
  intro x hx
  rcases List.mem_append.1 hx with hx | hx
  · exact dgs_le d x hx
  · simp only [List.mem_cons, List.not_mem_nil, or_false] at hx
    rcases hx with rfl | rfl | rfl <;> omega
theorem lackL_append : ∀ a b : List Nat, lackL (a ++ b) = lackL a + lackL b
  | [], b => by simp [lackL]
  | x :: a, b => by simp only [List.cons_append, lackL, lackL_append a b]; omega
theorem lackL_le : ∀ a : List Nat, lackL a ≤ 15 * a.length
  | [] => Nat.le_refl _
  | x :: a => by have := lackL_le a; simp only [lackL, List.length_cons]; omega
theorem dgs_append (a b : List UInt8) : dgs (a ++ b) = dgs a ++ dgs b := by simp [dgs]
theorem dgs_inj : ∀ a b : List UInt8, dgs a = dgs b → a = b
  | [], [], _ => rfl
  | [], _ :: _, h => by simp [dgs, dg2] at h
  | _ :: _, [], h => by simp [dgs, dg2] at h
  | x :: a, y :: b, h => by
    simp only [dgs, List.flatMap_cons, dg2, List.cons_append, List.nil_append, List.cons.injEq] at h
    have e : x = y := by
      have h1 := h.1; have h2 := h.2.1
      exact UInt8.toNat_inj.1 (by omega)
    rw [e, dgs_inj a b h.2.2]
theorem lack_down : ∀ a b : List Nat, a.length = b.length → (∀ x ∈ b, x ≤ 15) → (∀ (i x y : Nat), a[i]? = some x → b[i]? = some y → x ≤ y) → lackL b ≤ lackL a ∧ (lackL a = lackL b → a = b)
  | [], [], _, _, _ => ⟨Nat.le_refl _, fun _ => rfl⟩
  | [], _ :: _, h, _, _ => by simp at h
  | _ :: _, [], h, _, _ => by simp at h
  | x :: a, y :: b, h, h15, hle => by
    have ih := lack_down a b (by simpa using h) (fun z hz => h15 z (List.mem_cons_of_mem _ hz)) (fun i p q hp hq => hle (i + 1) p q (by simpa using hp) (by simpa using hq))
    have h0 := hle 0 x y (by simp) (by simp)
    have hy := h15 y (by simp)
    simp only [lackL]
    refine ⟨by omega, fun e => ?_⟩
    have e1 : x = y := by omega
    rw [e1, ih.2 (by omega)]
/-- Of two unlike digests of one length each has a digit greater than the other's. -/
theorem digits_more (a b : List UInt8) (h : a.length = b.length) (hn : a.length ≤ 32) (hne : a ≠ b) : ∃ i x y : Nat, (digitsW a)[i]? = some x ∧ (digitsW b)[i]? = some y ∧ y < x := by
  by_cases hall : ∀ i x y : Nat, (digitsW a)[i]? = some x → (digitsW b)[i]? = some y → x ≤ y
  · exfalso
    have la := dgs_length a
    have lb := dgs_length b
    have hd := lack_down (dgs a) (dgs b) (by omega) (dgs_le b) (fun i x y hx hy => hall i x y
      (by unfold digitsW; rw [List.getElem?_append_left (List.getElem?_eq_some_iff.1 hx).1]; exact hx)
      (by unfold digitsW; rw [List.getElem?_append_left (List.getElem?_eq_some_iff.1 hy).1]; exact hy))
    have h1 := lackL_le (dgs a)
    have h2 := lackL_le (dgs b)
    have tail : ∀ (k : Nat) x y, [lackL (dgs a) / 256 % 16, lackL (dgs a) / 16 % 16, lackL (dgs a) % 16][k]? = some x → [lackL (dgs b) / 256 % 16, lackL (dgs b) / 16 % 16, lackL (dgs b) % 16][k]? = some y → x ≤ y := fun k x y hx hy =>
      hall (2 * a.length + k) x y
        (by unfold digitsW; rw [List.getElem?_append_right (by omega), show 2 * a.length + k - (dgs a).length = k by omega]; exact hx)
        (by unfold digitsW; rw [List.getElem?_append_right (by omega), show 2 * a.length + k - (dgs b).length = k by omega]; exact hy)
    have t0 := tail 0 _ _ rfl rfl
    have t1 := tail 1 _ _ rfl rfl
    have t2 := tail 2 _ _ rfl rfl
    exact hne (dgs_inj a b (hd.2 (by omega)))
  · have ⟨i, hi⟩ := Classical.not_forall.1 hall
    have ⟨x, hx⟩ := Classical.not_forall.1 hi
    have ⟨y, hy⟩ := Classical.not_forall.1 hx
    have ⟨h1, hy⟩ := Classical.not_imp.1 hy
    have ⟨h2, hy⟩ := Classical.not_imp.1 hy
    exact ⟨i, x, y, h1, h2, by omega⟩
theorem digits_checks (d : List UInt8) (h : d.length ≤ 32) : lackL (dgs d) / 256 % 16 * 256 + lackL (dgs d) / 16 % 16 * 16 + lackL (dgs d) % 16 = lackL (dgs d) := by
  have h1 := lackL_le (dgs d)
  have h2 := dgs_length d
  omega

/-! Chains. -/
def stepOne (leaf chain p : Nat) (v : List UInt8) : List UInt8 := sumF (3 :: (varint leaf ++ (varint chain ++ (varint p ++ v))))
def stepsN (leaf chain frm : Nat) : Nat → List UInt8 → List UInt8
  | 0, v => v
  | k + 1, v => stepOne leaf chain (frm + k) (stepsN leaf chain frm k v)
/-- A chain's value, some steps further on. -/
def stepF (leaf chain frm to : Nat) (v : List UInt8) : List UInt8 := stepsN leaf chain frm (min to 15 - frm) v
theorem stepsN_length (leaf chain frm k : Nat) (v : List UInt8) (h : v.length = 32) : (stepsN leaf chain frm k v).length = 32 := by
  cases k with
  | zero => exact h
  | succ k => exact sumF_length _
theorem stepF_length (leaf chain frm to : Nat) (v : List UInt8) (h : v.length = 32) : (stepF leaf chain frm to v).length = 32 := stepsN_length _ _ _ _ _ h
theorem stepsN_add (leaf chain frm k : Nat) (v : List UInt8) : ∀ m, stepsN leaf chain (frm + k) m (stepsN leaf chain frm k v) = stepsN leaf chain frm (k + m) v
  | 0 => rfl
  | m + 1 => by
    show stepOne leaf chain (frm + k + m) (stepsN leaf chain (frm + k) m (stepsN leaf chain frm k v)) = stepOne leaf chain (frm + (k + m)) (stepsN leaf chain frm (k + m) v)
    rw [stepsN_add leaf chain frm k v m, Nat.add_assoc]
theorem stepF_add (leaf chain a b c : Nat) (v : List UInt8) (h1 : a ≤ b) (h2 : b ≤ c) (h3 : b ≤ 15) : stepF leaf chain b c (stepF leaf chain a b v) = stepF leaf chain a c v := by
  unfold stepF
  have e := stepsN_add leaf chain a (b - a) v (min c 15 - b)
  rw [show a + (b - a) = b by omega, show b - a + (min c 15 - b) = min c 15 - a by omega] at e
  rw [show min b 15 - a = b - a by omega]
  exact e
theorem stepF_same (leaf chain b : Nat) (v : List UInt8) : stepF leaf chain b b v = v := by
  unfold stepF
  rw [show min b 15 - b = 0 by omega]; rfl

def firstF (seed : List UInt8) (leaf chain : Nat) : List UInt8 := sumF (2 :: (seed ++ (varint leaf ++ varint chain)))
theorem firstF_length (seed : List UInt8) (leaf chain : Nat) : (firstF seed leaf chain).length = 32 := sumF_length _
/-- The values of the first k chains, each at its place. -/
def chainsN (seed : List UInt8) (leaf : Nat) (places : List Nat) : Nat → List UInt8
  | 0 => []
  | k + 1 => chainsN seed leaf places k ++ stepF leaf k 0 (places.getD k 0) (firstF seed leaf k)
theorem chainsN_length (seed : List UInt8) (leaf : Nat) (places : List Nat) : ∀ k, (chainsN seed leaf places k).length = 32 * k
  | 0 => rfl
  | k + 1 => by rw [chainsN, List.length_append, chainsN_length, stepF_length _ _ _ _ _ (firstF_length _ _ _)]; omega
/-- What a signature's values make, brought to their ends. -/
def fromN (sign : List UInt8) (leaf : Nat) (places : List Nat) : Nat → List UInt8
  | 0 => []
  | k + 1 => fromN sign leaf places k ++ stepF leaf k (places.getD k 0) 15 ((sign.drop (32 * k)).take 32)
theorem fromN_length (sign : List UInt8) (leaf : Nat) (places : List Nat) : ∀ k, 32 * k ≤ sign.length → (fromN sign leaf places k).length = 32 * k
  | 0, _ => rfl
  | k + 1, h => by rw [fromN, List.length_append, fromN_length _ _ _ _ (by omega), stepF_length _ _ _ _ _ (by simp; omega)]; omega
theorem chainsN_part (seed : List UInt8) (leaf : Nat) (places : List Nat) (k : Nat) : ∀ n, k < n → ((chainsN seed leaf places n).drop (32 * k)).take 32 = stepF leaf k 0 (places.getD k 0) (firstF seed leaf k)
  | 0, h => by omega
  | n + 1, h => by
    have hl := chainsN_length seed leaf places n
    rw [chainsN]
    by_cases hk : k = n
    · subst hk
      rw [List.drop_append, List.drop_of_length_le (by omega), hl, Nat.sub_self, List.drop_zero, List.nil_append, List.take_of_length_le (by rw [stepF_length _ _ _ _ _ (firstF_length _ _ _)]; omega)]
    · rw [List.drop_append_of_le_length (by omega), List.take_append_of_le_length (by rw [List.length_drop]; omega)]
      exact chainsN_part seed leaf places k n (by omega)
theorem from_chains (seed : List UInt8) (leaf : Nat) (places : List Nat) (n : Nat) (h : ∀ x ∈ places, x ≤ 15) : ∀ k, k ≤ n → fromN (chainsN seed leaf places n) leaf places k = chainsN seed leaf (List.replicate n 15) k
  | 0, _ => rfl
  | k + 1, hk => by
    rw [fromN, chainsN, from_chains seed leaf places n h k (by omega), chainsN_part seed leaf places k n (by omega)]
    have h15 : places.getD k 0 ≤ 15 := by
      rw [List.getD_eq_getElem?_getD]
      rcases hq : places[k]? with _ | x
      · simp
      · exact h x (List.mem_of_getElem? hq)
    rw [stepF_add _ _ _ _ _ _ (Nat.zero_le _) h15 h15]
    rw [show (List.replicate n 15).getD k 0 = 15 by rw [List.getD_eq_getElem?_getD, List.getElem?_replicate, if_pos (by omega)]; rfl]
#print axioms digits_more
#print axioms from_chains
end Go.Isth
