/- The reference of layer 3, plain: its sum's step, four bytes and their number. No program. -/
import Derived.Test.YtdmopnmifdjcnaaDoorFrameP
import Derived.Test.YtdmopnmifdjcnaaDoorFrameQ
namespace Go.Isth
open Go

theorem crcBit_odd (x : BitVec 32) (h : x.toNat % 2 = 1) : crcBit x = (x >>> 1) ^^^ 0xedb88320#32 := by
  have e : x &&& 1#32 = 1#32 := by
    apply BitVec.eq_of_toNat_eq
    rw [BitVec.toNat_and]
    show x.toNat &&& 1 = 1
    rw [Nat.and_one_is_mod, h]
  unfold crcBit
  rw [e, show -(1#32) = BitVec.allOnes 32 by decide, BitVec.and_allOnes]
theorem crcBit_even (x : BitVec 32) (h : x.toNat % 2 = 0) : crcBit x = x >>> 1 := by
  have e : x &&& 1#32 = 0#32 := by
    apply BitVec.eq_of_toNat_eq
    rw [BitVec.toNat_and]
    show x.toNat &&& 1 = 0
    rw [Nat.and_one_is_mod, h]
  unfold crcBit
  rw [e, show -(0#32) = 0#32 by decide, BitVec.and_zero, BitVec.xor_zero]
theorem byte_nat (x : BitVec 32) (k : Nat) : ((⟨(x >>> k).setWidth 8⟩ : UInt8)).toNat = x.toNat / 2 ^ k % 256 := by
  show ((x >>> k).setWidth 8).toNat = _
  rw [BitVec.toNat_setWidth, BitVec.toNat_ushiftRight, Nat.shiftRight_eq_div_pow]
theorem sum_be32 (a b c d : UInt8) : be32 (BitVec.ofNat 32 (a.toNat * 16777216 + b.toNat * 65536 + c.toNat * 256 + d.toNat)) = [a, b, c, d] := by
  have ha := a.toNat_lt
  have hb := b.toNat_lt
  have hc := c.toNat_lt
  have hd := d.toNat_lt
  obtain ⟨x, hx⟩ : ∃ x, x = BitVec.ofNat 32 (a.toNat * 16777216 + b.toNat * 65536 + c.toNat * 256 + d.toNat) := ⟨_, rfl⟩
  have hv : x.toNat = a.toNat * 16777216 + b.toNat * 65536 + c.toNat * 256 + d.toNat := by rw [hx, BitVec.toNat_ofNat]; omega
  rw [← hx]
  unfold be32
  have e0 : (⟨(x >>> 24).setWidth 8⟩ : UInt8) = a := UInt8.toNat.inj (by rw [byte_nat, hv]; omega)
  have e1 : (⟨(x >>> 16).setWidth 8⟩ : UInt8) = b := UInt8.toNat.inj (by rw [byte_nat, hv]; omega)
  have e2 : (⟨(x >>> 8).setWidth 8⟩ : UInt8) = c := UInt8.toNat.inj (by rw [byte_nat, hv]; omega)
  have e3 : (⟨x.setWidth 8⟩ : UInt8) = d := UInt8.toNat.inj (by show (x.setWidth 8).toNat = _; rw [BitVec.toNat_setWidth, hv]; omega)
  rw [e0, e1, e2, e3]
theorem un32_sum (a b c d : UInt8) : (un32 a b c d).toNat = a.toNat * 16777216 + b.toNat * 65536 + c.toNat * 256 + d.toNat := by
  have ha := a.toNat_lt
  have hb := b.toNat_lt
  have hc := c.toNat_lt
  have hd := d.toNat_lt
  have h := un32l_be32 (BitVec.ofNat 32 (a.toNat * 16777216 + b.toNat * 65536 + c.toNat * 256 + d.toNat)) []
  rw [sum_be32] at h
  have h2 : un32 a b c d = BitVec.ofNat 32 (a.toNat * 16777216 + b.toNat * 65536 + c.toNat * 256 + d.toNat) := h
  rw [h2, BitVec.toNat_ofNat]
  omega
theorem be32_un32 (a b c d : UInt8) : be32 (un32 a b c d) = [a, b, c, d] := by
  have h : un32 a b c d = BitVec.ofNat 32 (a.toNat * 16777216 + b.toNat * 65536 + c.toNat * 256 + d.toNat) := by
    apply BitVec.eq_of_toNat_eq
    rw [un32_sum, BitVec.toNat_ofNat]
    have ha := a.toNat_lt
    have hb := b.toNat_lt
    have hc := c.toNat_lt
    have hd := d.toNat_lt
    omega
  rw [h, sum_be32]
theorem be32_inj {x y : BitVec 32} (h : be32 x = be32 y) : x = y := by
  have h1 := un32l_be32 x []
  have h2 := un32l_be32 y []
  rw [h] at h1
  rw [← h1, h2]
/-- The four bytes at a place are a number's just where their number is it. -/
theorem four_at (b : List UInt8) (k : Nat) (x : BitVec 32) (h : k + 4 ≤ b.length) : ((b.drop k).take 4 = be32 x) ↔ un32l (b.drop k) = x := by
  obtain ⟨b0, b1, b2, b3, r, e⟩ : ∃ b0 b1 b2 b3 r, b.drop k = b0 :: b1 :: b2 :: b3 :: r := by
    match hd : b.drop k, (show 4 ≤ (b.drop k).length by simp; omega) with
    | b0 :: b1 :: b2 :: b3 :: r, _ => exact ⟨b0, b1, b2, b3, r, rfl⟩
  rw [e]
  show [b0, b1, b2, b3] = be32 x ↔ un32 b0 b1 b2 b3 = x
  constructor
  · intro h
    rw [← be32_un32] at h
    exact be32_inj h
  · rintro rfl
    exact (be32_un32 _ _ _ _).symm
end Go.Isth
