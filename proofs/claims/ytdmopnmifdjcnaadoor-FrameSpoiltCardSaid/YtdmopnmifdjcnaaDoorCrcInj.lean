/- The checksum tells one byte from another: plain. -/
import Derived.Test.YtdmopnmifdjcnaaDoorCrc
namespace Go.Isth
open Go

theorem crcBit_if (x : BitVec 32) : crcBit x = if x.toNat % 2 = 1 then (x >>> 1) ^^^ 0xedb88320#32 else x >>> 1 := by
  have hx : (x &&& 1#32).toNat = x.toNat % 2 := by rw [BitVec.toNat_and, show (1#32).toNat = 1 from rfl, Nat.and_one_is_mod]
  unfold crcBit
  by_cases h : x.toNat % 2 = 1
  · have e : x &&& 1#32 = 1#32 := BitVec.eq_of_toNat_eq (by rw [hx, h]; rfl)
    rw [if_pos h, e]
    rfl
  · have e : x &&& 1#32 = 0#32 := BitVec.eq_of_toNat_eq (by rw [hx]; show _ = 0; omega)
    rw [if_neg h, e]
    have : (0xedb88320#32 &&& -0#32) = 0#32 := rfl
    rw [this, BitVec.xor_zero]

theorem shr_low (x : BitVec 32) : (x >>> 1).getLsbD 31 = false := by
  rw [BitVec.getLsbD_ushiftRight]
  exact BitVec.getLsbD_of_ge x (1 + 31) (by omega)
theorem shr_eq {x y : BitVec 32} (h : x >>> 1 = y >>> 1) (hp : x.toNat % 2 = y.toNat % 2) : x = y := by
  have h1 := congrArg BitVec.toNat h
  rw [BitVec.toNat_ushiftRight, BitVec.toNat_ushiftRight, Nat.shiftRight_eq_div_pow, Nat.shiftRight_eq_div_pow] at h1
  exact BitVec.eq_of_toNat_eq (by omega)
theorem crcBit_inj {x y : BitVec 32} (h : crcBit x = crcBit y) : x = y := by
  rw [crcBit_if, crcBit_if] at h
  by_cases hx : x.toNat % 2 = 1 <;> by_cases hy : y.toNat % 2 = 1
  · rw [if_pos hx, if_pos hy] at h
    refine shr_eq ?_ (by omega)
    have := congrArg (· ^^^ 0xedb88320#32) h
    simpa [BitVec.xor_assoc] using this
  · rw [if_pos hx, if_neg hy] at h
    have h1 := congrArg (fun z : BitVec 32 => z.getLsbD 31) h
    simp only [BitVec.getLsbD_xor, shr_low] at h1
    exact absurd h1 (by decide)
  · rw [if_neg hx, if_pos hy] at h
    have h1 := congrArg (fun z : BitVec 32 => z.getLsbD 31) h
    simp only [BitVec.getLsbD_xor, shr_low] at h1
    exact absurd h1 (by decide)
  · rw [if_neg hx, if_neg hy] at h
    exact shr_eq h (by omega)
theorem crcBits_inj (k : Nat) {x y : BitVec 32} (h : crcBits k x = crcBits k y) : x = y := by
  induction k with
  | zero => exact h
  | succ k ih => exact ih (crcBit_inj h)
theorem crcByte_inj {x y : BitVec 32} (c : UInt8) (h : crcByte x c = crcByte y c) : x = y := by
  have h1 := crcBits_inj 8 h
  unfold crcIn at h1
  have := congrArg (· ^^^ c.toBitVec.setWidth 32) h1
  simpa [BitVec.xor_assoc] using this
theorem crcByte_byte {x : BitVec 32} {c d : UInt8} (h : crcByte x c = crcByte x d) : c = d := by
  have h1 := crcBits_inj 8 h
  unfold crcIn at h1
  have h2 := congrArg (x ^^^ ·) h1
  simp only [← BitVec.xor_assoc, BitVec.xor_self, BitVec.zero_xor] at h2
  have h3 := congrArg BitVec.toNat h2
  rw [BitVec.toNat_setWidth, BitVec.toNat_setWidth, UInt8.toNat_toBitVec, UInt8.toNat_toBitVec] at h3
  have := c.toNat_lt
  have := d.toNat_lt
  exact UInt8.toNat_inj.1 (by omega)
theorem crcFrom_inj (bs : List UInt8) {x y : BitVec 32} (h : crcFrom x bs = crcFrom y bs) : x = y := by
  induction bs generalizing x y with
  | nil => exact h
  | cons c cs ih => exact crcByte_inj c (ih h)
theorem crcFrom_set (bs : List UInt8) (x : BitVec 32) (i : Nat) (hi : i < bs.length) (c : UInt8) (h : crcFrom x (bs.set i c) = crcFrom x bs) : c = bs[i] := by
  induction bs generalizing x i with
  | nil => simp at hi
  | cons d ds ih =>
    cases i with
    | zero =>
      simp only [List.set_cons_zero] at h
      exact crcByte_byte (crcFrom_inj ds h)
    | succ i =>
      simp only [List.set_cons_succ] at h
      simpa using ih (crcByte x d) i (by simpa using hi) h
/-- Of bytes of which one is another one the checksum is another one. -/
theorem crc_set {bs : List UInt8} {i : Nat} (hi : i < bs.length) {c : UInt8} (hc : c ≠ bs[i]) : crc (bs.set i c) ≠ crc bs := by
  intro h
  unfold crc at h
  have h1 := congrArg (~~~ ·) h
  simp only [BitVec.not_not] at h1
  exact hc (crcFrom_set bs _ i hi c h1)
#print axioms crc_set
end Go.Isth
