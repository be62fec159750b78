/- Plain laws on the model's integer operations at 8, 32 and 64 bits, in words of BitVec. No program. -/
import Derived.WalkKit
namespace Go.Isth
open Go Go.RowKit

abbrev B (b : UInt8) : Value := .int .u8 (b.toNat : Int)
abbrev U (x : BitVec 32) : Value := .int .u32 (x.toNat : Int)
abbrev W (x : BitVec 64) : Value := .int .u64 (x.toNat : Int)

theorem ofInt_toNat {n : Nat} (x : BitVec n) : BitVec.ofInt n (x.toNat : Int) = x := by
  apply BitVec.eq_of_toNat_eq
  simp

theorem wrap_u32_bv (x : BitVec 32) : IntKind.u32.wrap (x.toNat : Int) = (x.toNat : Int) := by
  have := x.isLt
  simp only [IntKind.wrap, IntKind.bits, IntKind.signed, Bool.false_and, Bool.false_eq_true, if_false]
  omega
theorem wrap_u64_bv (x : BitVec 64) : IntKind.u64.wrap (x.toNat : Int) = (x.toNat : Int) := by
  have := x.isLt
  simp only [IntKind.wrap, IntKind.bits, IntKind.signed, Bool.false_and, Bool.false_eq_true, if_false]
  omega
theorem wrap_u8_bv (x : BitVec 8) : IntKind.u8.wrap (x.toNat : Int) = (x.toNat : Int) := by
  have := x.isLt
  simp only [IntKind.wrap, IntKind.bits, IntKind.signed, Bool.false_and, Bool.false_eq_true, if_false]
  omega

theorem and32 (x y : BitVec 32) : bits .and .u32 (x.toNat : Int) (y.toNat : Int) = ((x &&& y).toNat : Int) := by
  simp only [bits, IntKind.bits, ofInt_toNat]; exact wrap_u32_bv _
theorem or32 (x y : BitVec 32) : bits .or .u32 (x.toNat : Int) (y.toNat : Int) = ((x ||| y).toNat : Int) := by
  simp only [bits, IntKind.bits, ofInt_toNat]; exact wrap_u32_bv _
theorem xor32 (x y : BitVec 32) : bits .xor .u32 (x.toNat : Int) (y.toNat : Int) = ((x ^^^ y).toNat : Int) := by
  simp only [bits, IntKind.bits, ofInt_toNat]; exact wrap_u32_bv _
theorem and64 (x y : BitVec 64) : bits .and .u64 (x.toNat : Int) (y.toNat : Int) = ((x &&& y).toNat : Int) := by
  simp only [bits, IntKind.bits, ofInt_toNat]; exact wrap_u64_bv _
theorem or64 (x y : BitVec 64) : bits .or .u64 (x.toNat : Int) (y.toNat : Int) = ((x ||| y).toNat : Int) := by
  simp only [bits, IntKind.bits, ofInt_toNat]; exact wrap_u64_bv _
theorem xor64 (x y : BitVec 64) : bits .xor .u64 (x.toNat : Int) (y.toNat : Int) = ((x ^^^ y).toNat : Int) := by
  simp only [bits, IntKind.bits, ofInt_toNat]; exact wrap_u64_bv _
theorem and8 (x y : UInt8) : bits .and .u8 (x.toNat : Int) (y.toNat : Int) = ((x &&& y).toNat : Int) := by
  have := wrap_u8_bv (x.toBitVec &&& y.toBitVec)
  simp only [bits, IntKind.bits, ← UInt8.toNat_toBitVec, ofInt_toNat]; exact this
theorem or8 (x y : UInt8) : bits .or .u8 (x.toNat : Int) (y.toNat : Int) = ((x ||| y).toNat : Int) := by
  have := wrap_u8_bv (x.toBitVec ||| y.toBitVec)
  simp only [bits, IntKind.bits, ← UInt8.toNat_toBitVec, ofInt_toNat]; exact this
theorem xor8 (x y : UInt8) : bits .xor .u8 (x.toNat : Int) (y.toNat : Int) = ((x ^^^ y).toNat : Int) := by
  have := wrap_u8_bv (x.toBitVec ^^^ y.toBitVec)
  simp only [bits, IntKind.bits, ← UInt8.toNat_toBitVec, ofInt_toNat]; exact this

theorem shr32 (x : BitVec 32) (k : Nat) : (x.toNat : Int) / 2 ^ k = ((x >>> k).toNat : Int) := by
  rw [BitVec.toNat_ushiftRight, Nat.shiftRight_eq_div_pow, Int.natCast_ediv, Int.natCast_pow]; rfl
theorem neg32 (x : BitVec 32) : (-(x.toNat : Int)) % 4294967296 = ((-x).toNat : Int) := by
  have := x.isLt
  rw [BitVec.toNat_neg]; omega
theorem add32 (x y : BitVec 32) : ((x.toNat : Int) + (y.toNat : Int)) % 4294967296 = ((x + y).toNat : Int) := by
  rw [BitVec.toNat_add]; omega
theorem shl32 (x : BitVec 32) (k : Nat) : ((x.toNat : Int) * 2 ^ k) % 4294967296 = ((x <<< k).toNat : Int) := by
  rw [BitVec.toNat_shiftLeft, Nat.shiftLeft_eq, show (x.toNat : Int) * 2 ^ k = ((x.toNat * 2 ^ k : Nat) : Int) from by rw [Int.natCast_mul, Int.natCast_pow]; rfl]
  omega
theorem toNat_setWidth32 (b : UInt8) : (b.toNat : Int) = ((b.toBitVec.setWidth 32).toNat : Int) := by
  have := b.toNat_lt
  rw [BitVec.toNat_setWidth, UInt8.toNat_toBitVec, Nat.mod_eq_of_lt (by omega)]
/-- 'int(uint(n) % m)' -/
theorem umod (n m : Int) (h0 : 0 < m) (h1 : m ≤ 4611686018427387904) : ∃ k : Nat, (k : Int) < m ∧ wrap64 ((IntKind.u64.wrap n).tmod m) = (k : Int) := by
  have hw : 0 ≤ IntKind.u64.wrap n := by
    simp only [IntKind.wrap, IntKind.bits, IntKind.signed, Bool.false_and, Bool.false_eq_true, if_false]
    omega
  have h2 : 0 ≤ (IntKind.u64.wrap n).tmod m := Int.tmod_nonneg _ hw
  have h3 : (IntKind.u64.wrap n).tmod m < m := Int.tmod_lt_of_pos _ h0
  refine ⟨((IntKind.u64.wrap n).tmod m).toNat, by omega, ?_⟩
  generalize (IntKind.u64.wrap n).tmod m = x at *
  rw [IntWalk.wrap64_in _ ⟨by omega, by omega⟩]
  omega
/-- What the walk asks at 'int(uint(n) % uint(len+1))'. -/
theorem umod_len (n : Int) (L : Nat) (h : L ≤ 4611686018427387903) : ∃ k : Nat, k ≤ L ∧ IntKind.i64.wrap ((L : Int) + 1) = (L : Int) + 1 ∧ IntKind.u64.wrap ((L : Int) + 1) = (L : Int) + 1 ∧ (((L : Int) + 1) == 0) = false ∧ IntKind.i64.wrap ((IntKind.u64.wrap n).tmod ((L : Int) + 1)) = (k : Int) := by
  obtain ⟨k, hk, e⟩ := umod n ((L : Int) + 1) (by omega) (by omega)
  refine ⟨k, by omega, ?_, ?_, ?_, ?_⟩
  · rw [IntKind.wrap_i64]; omega
  · simp only [IntKind.wrap, IntKind.bits, IntKind.signed, Bool.false_and, Bool.false_eq_true, if_false]; omega
  · simp; omega
  · rw [IntKind.wrap_i64, ← e, wrap64]
#print axioms shl32
end Go.Isth
