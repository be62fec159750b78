/- Layer 3's plain laws: a record is read back. No program. -/
import Derived.Test.YtdmopnmifdjcnaaDoorCrc
namespace Go.Isth
open Go

theorem un32_be32 (x : BitVec 32) : un32 ⟨(x >>> 24).setWidth 8⟩ ⟨(x >>> 16).setWidth 8⟩ ⟨(x >>> 8).setWidth 8⟩ ⟨x.setWidth 8⟩ = x := by
  apply BitVec.eq_of_getLsbD_eq
  intro i hi
  simp only [un32, BitVec.getLsbD_or, BitVec.getLsbD_shiftLeft, BitVec.getLsbD_setWidth, BitVec.getLsbD_ushiftRight]
  by_cases h1 : i < 8
  · simp [h1, show i < 16 by omega, show i < 24 by omega, hi]
  by_cases h2 : i < 16
  · have e : i - 8 < 8 := by omega
    simp [h1, h2, show i < 24 by omega, hi, e, show i - 8 < 32 by omega, show 8 + (i - 8) = i by omega]
  by_cases h3 : i < 24
  · have e : i - 16 < 8 := by omega
    have e2 : ¬ i - 8 < 8 := by omega
    simp [h1, h2, h3, hi, e, e2, show i - 16 < 32 by omega, show 16 + (i - 16) = i by omega]
  · have e : i - 24 < 8 := by omega
    have e2 : ¬ i - 8 < 8 := by omega
    have e3 : ¬ i - 16 < 8 := by omega
    simp [h1, h2, h3, hi, e, e2, e3, show i - 24 < 32 by omega, show 24 + (i - 24) = i by omega]

theorem un32l_be32 (x : BitVec 32) (r : List UInt8) : un32l (be32 x ++ r) = x := un32_be32 x
theorem toNat_ofNat32 (n : Nat) (h : n ≤ 1048576) : (BitVec.ofNat 32 n).toNat = n := by simp; omega

/-- A record, whatever stands behind it, is read as its payload. -/
theorem oneF_record (p r : List UInt8) (h0 : 0 < p.length) (h1 : p.length ≤ 1048576) : oneF (record p ++ r) = .inl (p, p.length + 12) := by
  have hl : (record p ++ r).length = p.length + 12 + r.length := by rw [List.length_append, record_length]
  have e0 : record p ++ r = be32 (BitVec.ofNat 32 p.length) ++ (be32 (crc (be32 (BitVec.ofNat 32 p.length))) ++ (p ++ (be32 (crc p) ++ r))) := by simp [record]
  have e4 : (record p ++ r).drop 4 = be32 (crc (be32 (BitVec.ofNat 32 p.length))) ++ (p ++ (be32 (crc p) ++ r)) := by rw [e0]; exact List.drop_left' rfl
  have t4 : (record p ++ r).take 4 = be32 (BitVec.ofNat 32 p.length) := by rw [e0]; exact List.take_left' rfl
  have e8 : (record p ++ r).drop 8 = p ++ (be32 (crc p) ++ r) := by
    rw [show 8 = 4 + 4 from rfl, ← List.drop_drop, e4]; exact List.drop_left' rfl
  have hn : (un32l (record p ++ r)).toNat = p.length := by rw [e0, un32l_be32, toNat_ofNat32 _ h1]
  unfold oneF
  simp only [hn, e4, t4, e8, un32l_be32]
  rw [if_neg (by omega), if_neg (by omega), if_neg (fun h => h.elim (fun h => h rfl) (fun h => by omega)), if_neg (by omega), List.drop_left' rfl, List.take_left' rfl, un32l_be32, if_neg (fun h => h rfl)]
/-- What Scan does. -/
inductive Scans : List UInt8 → List (List UInt8) → Nat → Int → Prop
  | stop {b : List UInt8} : oneF b = .inr 8 → Scans b [] 0 0
  | bad {b : List UInt8} {e : Int} : oneF b = .inr e → e ≠ 8 → Scans b [] 0 e
  | more {b : List UInt8} {p : List UInt8} {k a : Nat} {l : List (List UInt8)} {e : Int} : oneF b = .inl (p, k) → Scans (b.drop k) l a e → Scans b (p :: l) (k + a) e

theorem oneF_inl {b p : List UInt8} {k : Nat} (h : oneF b = .inl (p, k)) : k = p.length + 12 ∧ k ≤ b.length ∧ 0 < p.length ∧ p.length ≤ 1048576 := by
  unfold oneF at h
  split at h
  · cases h
  split at h
  · cases h
  simp only at h
  split at h
  · cases h
  rename_i hc
  simp only [not_or] at hc
  split at h
  · cases h
  split at h
  · cases h
  injection h with h
  injection h with h1 h2
  subst h1
  subst h2
  simp
  omega
theorem oneF_inr {b : List UInt8} {e : Int} (h : oneF b = .inr e) : e = 8 ∨ e = 11 ∨ e = 12 := by
  unfold oneF at h
  split at h
  · injection h with h; omega
  split at h
  · injection h with h; omega
  simp only at h
  split at h
  · injection h with h; omega
  split at h
  · injection h with h; omega
  split at h
  · injection h with h; omega
  · cases h
theorem crc_check : crc [49, 50, 51, 52, 53, 54, 55, 56, 57] = 0xcbf43926#32 := by decide +kernel
end Go.Isth
