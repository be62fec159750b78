/- SHA-256 as the reference says it, plain: one padded message. No program. -/
import Derived.Test.YtcgdojdiihdkeaaDoorShaP
namespace Go.Isth
open Go

def zerosN (r : Nat) : Nat := tailSize r - 9 - r
/-- The message with all that is laid behind it. -/
def padF (bs : List UInt8) : List UInt8 := bs ++ (128 :: (List.replicate (zerosN (bs.length % 64)) 0 ++ be64 (bs.length * 8 % 18446744073709551616)))
def blocksN (n : Nat) : Nat := n / 64 + tailSize (n % 64) / 64
theorem zeros_fits (n z : Nat) (hz : z ≤ zerosN (n % 64)) : ((n + 1 + z) % 64 = 56 ↔ z = zerosN (n % 64)) := by
  unfold zerosN tailSize at *
  split at hz <;> split <;> omega
theorem zerosN_le (r : Nat) : zerosN (r % 64) ≤ 63 := by
  unfold zerosN tailSize; split <;> omega
theorem padF_length (bs : List UInt8) : (padF bs).length = 64 * blocksN bs.length := by
  unfold padF blocksN
  simp only [List.length_append, List.length_cons, List.length_replicate, be64_length]
  unfold zerosN tailSize
  split <;> omega
theorem sum_pad (bs : List UInt8) : sumF bs = outF (absN (blocksN bs.length) kStart (padF bs)) := by
  unfold sumF endF blocksN
  have hr : (bs.drop (bs.length / 64 * 64)).length = bs.length % 64 := by rw [List.length_drop]; omega
  rw [hr, absN_add]
  have h1 : absN (bs.length / 64) kStart (padF bs) = absN (bs.length / 64) kStart bs := by unfold padF; rw [absN_append _ _ _ _ (by omega)]
  have h2 : (padF bs).drop (64 * (bs.length / 64)) = tailF (bs.drop (bs.length / 64 * 64)) bs.length := by
    unfold padF tailF
    rw [List.drop_append_of_le_length (by omega), hr, Nat.mul_comm 64]
    rfl
  rw [h1, h2]
theorem ch_or (e f g : W32) : (e &&& f) ||| (~~~ e &&& g) = (e &&& f) ^^^ (~~~ e &&& g) := by
  apply BitVec.eq_of_getLsbD_eq
  intro i hi
  simp only [BitVec.getLsbD_or, BitVec.getLsbD_and, BitVec.getLsbD_xor, BitVec.getLsbD_not, hi, decide_true, Bool.true_and]
  cases e.getLsbD i <;> cases f.getLsbD i <;> cases g.getLsbD i <;> rfl
theorem maj_or (a b c : W32) : (a &&& b) ||| (a &&& c) ||| (b &&& c) = (a &&& b) ^^^ (a &&& c) ^^^ (b &&& c) := by
  apply BitVec.eq_of_getLsbD_eq
  intro i hi
  simp only [BitVec.getLsbD_or, BitVec.getLsbD_and, BitVec.getLsbD_xor]
  cases a.getLsbD i <;> cases b.getLsbD i <;> cases c.getLsbD i <;> rfl
theorem ones_xor (e : W32) : (4294967295#32 : W32) ^^^ e = ~~~ e := BitVec.allOnes_xor
theorem next_ref (l : List W32) (x16 x15 x7 x2 : W32) (h : wNext l = x16 + lowS x15 + x7 + highS x2) : wNext l = highS x2 + x7 + lowS x15 + x16 := by
  rw [h]; ac_rfl
/-- The words of a block, as far as they are reckoned. -/
def wordsK (b : List UInt8) (k : Nat) : List W32 := if k ≤ 16 then (words16 b).take k else schedN (k - 16) (words16 b)
theorem wordsK_length (b : List UInt8) (k : Nat) : (wordsK b k).length = k := by
  unfold wordsK
  split
  · rw [List.length_take, words16_length]; omega
  · rw [schedN_length, words16_length]; omega
theorem wordsK_next (b : List UInt8) (k : Nat) (h : 16 ≤ k) : wordsK b (k + 1) = snocW (wordsK b k) := by
  unfold wordsK
  rw [if_neg (by omega)]
  by_cases hk : k = 16
  · subst hk
    rw [if_pos (by omega), List.take_of_length_le (by rw [words16_length]; omega)]; rfl
  · rw [if_neg (by omega), show k + 1 - 16 = (k - 16) + 1 by omega]; rfl
theorem wordsK_low (b : List UInt8) (k : Nat) (h : k ≤ 16) : wordsK b k = (words16 b).take k := by unfold wordsK; rw [if_pos h]
theorem wordsK_end (b : List UInt8) : wordsK b 64 = schedN 48 (words16 b) := by unfold wordsK; rw [if_neg (by decide)]
#print axioms sum_pad
#print axioms next_ref
end Go.Isth
