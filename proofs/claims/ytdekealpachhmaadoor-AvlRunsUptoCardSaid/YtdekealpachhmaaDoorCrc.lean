/- The checksum of layer 3 as a plain function, and a record's bytes. No program. -/
import Derived.Test.YtdekealpachhmaaDoorBits
namespace Go.Isth
open Go

def crcBit (x : BitVec 32) : BitVec 32 := (x >>> 1) ^^^ (0xedb88320#32 &&& -(x &&& 1#32))
def crcBits : Nat → BitVec 32 → BitVec 32
  | 0, x => x
  | k + 1, x => crcBit (crcBits k x)
def crcIn (x : BitVec 32) (c : UInt8) : BitVec 32 := x ^^^ c.toBitVec.setWidth 32
def crcByte (x : BitVec 32) (c : UInt8) : BitVec 32 := crcBits 8 (crcIn x c)
def crcFrom (x : BitVec 32) (bs : List UInt8) : BitVec 32 := bs.foldl crcByte x
def crc (bs : List UInt8) : BitVec 32 := ~~~ (crcFrom 0xffffffff#32 bs)
/-- Four bytes, the highest first. -/
def be32 (x : BitVec 32) : List UInt8 := [⟨(x >>> 24).setWidth 8⟩, ⟨(x >>> 16).setWidth 8⟩, ⟨(x >>> 8).setWidth 8⟩, ⟨x.setWidth 8⟩]
def record (p : List UInt8) : List UInt8 := be32 (BitVec.ofNat 32 p.length) ++ be32 (crc (be32 (BitVec.ofNat 32 p.length))) ++ (p ++ be32 (crc p))
def un32 (a b c d : UInt8) : BitVec 32 := (a.toBitVec.setWidth 32 <<< 24) ||| (b.toBitVec.setWidth 32 <<< 16) ||| (c.toBitVec.setWidth 32 <<< 8) ||| d.toBitVec.setWidth 32

theorem crc_round (y : BitVec 32) : bits .xor .u32 ((y.toNat : Int) / 2) (bits .and .u32 3988292384 ((-(bits .and .u32 (y.toNat : Int) 1)) % 4294967296)) = ((crcBit y).toNat : Int) := by
  rw [show bits .and .u32 (y.toNat : Int) 1 = ((y &&& 1#32).toNat : Int) from and32 y 1#32, neg32, show ∀ z : BitVec 32, bits .and .u32 3988292384 (z.toNat : Int) = ((0xedb88320#32 &&& z).toNat : Int) from fun z => and32 0xedb88320#32 z,
    show (y.toNat : Int) / (2 : Int) = ((y >>> 1).toNat : Int) from shr32 y 1, xor32]
  rfl
theorem crc_in (x : BitVec 32) (b : UInt8) : bits .xor .u32 (x.toNat : Int) (b.toNat : Int) = ((crcIn x b).toNat : Int) := by
  rw [toNat_setWidth32, xor32]; rfl
theorem crc_out (x : BitVec 32) : bits .xor .u32 IntKind.u32.max (x.toNat : Int) = ((~~~ x).toNat : Int) := by
  rw [show bits .xor .u32 IntKind.u32.max (x.toNat : Int) = ((BitVec.allOnes 32 ^^^ x).toNat : Int) from xor32 (BitVec.allOnes 32) x, BitVec.allOnes_xor]
theorem crcFrom_snoc (x : BitVec 32) (bs : List UInt8) (k : Nat) (h : k < bs.length) : crcFrom x (bs.take (k + 1)) = crcBits 8 (crcIn (crcFrom x (bs.take k)) bs[k]) := by
  unfold crcFrom
  rw [List.take_succ_eq_append_getElem h, List.foldl_append]
  rfl
theorem be32_length (x : BitVec 32) : (be32 x).length = 4 := rfl
theorem record_length (p : List UInt8) : (record p).length = p.length + 12 := by simp [record, be32_length]; omega
theorem byte_of (x : BitVec 32) : (x.toNat : Int) % 256 = (((⟨x.setWidth 8⟩ : UInt8)).toNat : Int) := by
  show _ = ((x.setWidth 8).toNat : Int)
  rw [BitVec.toNat_setWidth]; omega
theorem byte_of_shr (x : BitVec 32) (k : Nat) : (x.toNat : Int) / 2 ^ k % 256 = (((⟨(x >>> k).setWidth 8⟩ : UInt8)).toNat : Int) := by
  rw [shr32, byte_of]
theorem un32_val (a b c d : UInt8) : bits .or .u32 (bits .or .u32 (bits .or .u32 ((a.toNat : Int) * 16777216) ((b.toNat : Int) * 65536)) ((c.toNat : Int) * 256)) (d.toNat : Int) = ((un32 a b c d).toNat : Int) := by
  have q : ∀ (x : UInt8) (k : Nat), k ≤ 24 → (x.toNat : Int) * 2 ^ k = ((x.toBitVec.setWidth 32 <<< k).toNat : Int) := by
    intro x k hk
    rw [← shl32, ← toNat_setWidth32]
    have h1 := x.toNat_lt
    have h2 : (2 : Int) ^ k ≤ 2 ^ 24 := by
      have : (2 : Nat) ^ k ≤ 2 ^ 24 := Nat.pow_le_pow_right (by omega) hk
      have h3 : ((2 ^ k : Nat) : Int) = (2 : Int) ^ k := by rw [Int.natCast_pow]; rfl
      omega
    have h4 : (x.toNat : Int) * 2 ^ k ≤ 255 * 2 ^ 24 := Int.mul_le_mul (by omega) h2 (Int.pow_nonneg (by decide)) (by decide)
    have h5 : 0 ≤ (x.toNat : Int) * 2 ^ k := Int.mul_nonneg (by omega) (Int.pow_nonneg (by decide))
    omega
  have q3 := q a 24 (by omega)
  have q2 := q b 16 (by omega)
  have q1 := q c 8 (by omega)
  simp only [show (2 : Int) ^ 24 = 16777216 from rfl, show (2 : Int) ^ 16 = 65536 from rfl, show (2 : Int) ^ 8 = 256 from rfl] at q1 q2 q3
  rw [q3, q2, q1, toNat_setWidth32 d, or32, or32, or32]
  rfl
def un32l (bs : List UInt8) : BitVec 32 := un32 (bs.getD 0 0) (bs.getD 1 0) (bs.getD 2 0) (bs.getD 3 0)
/-- What One does: the payload and its record's length, or the error's number. -/
def oneF (b : List UInt8) : (List UInt8 × Nat) ⊕ Int :=
  if b.length = 0 then .inr 8
  else if b.length < 8 then .inr 12
  else
    let n := (un32l b).toNat
    if un32l (b.drop 4) ≠ crc (b.take 4) ∨ n = 0 ∨ 1048576 < n then .inr 11
    else if b.length < n + 12 then .inr 12
    else if un32l ((b.drop 8).drop n) ≠ crc ((b.drop 8).take n) then .inr 11
    else .inl ((b.drop 8).take n, n + 12)

theorem be32_vals (x : BitVec 32) : [Value.int .u8 ((x.toNat : Int) / 16777216), Value.int .u8 ((x.toNat : Int) / 65536 % 256), Value.int .u8 ((x.toNat : Int) / 256 % 256), Value.int .u8 ((x.toNat : Int) % 256)] = (be32 x).map B := by
  have h0 : (x.toNat : Int) / 16777216 = (x.toNat : Int) / 2 ^ 24 % 256 := by have := x.isLt; omega
  have h1 : (x.toNat : Int) / 65536 = (x.toNat : Int) / 2 ^ 16 := rfl
  have h2 : (x.toNat : Int) / 256 = (x.toNat : Int) / 2 ^ 8 := rfl
  rw [h0, h1, h2, byte_of_shr, byte_of_shr, byte_of_shr, byte_of]
  rfl
end Go.Isth
