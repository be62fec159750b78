/- A record of which one byte is another one is told to be spoilt: plain. -/
import Derived.Test.YtdmopnmifdjcnaaDoorCrcInj
import Derived.Test.YtdmopnmifdjcnaaDoorFrameP
namespace Go.Isth
open Go

theorem un32_bytes (a b c d : UInt8) : be32 (un32 a b c d) = [a, b, c, d] := by
  have key : ∀ (z : BitVec 32) (k : Nat) (e : UInt8), (∀ i, i < 8 → z.getLsbD (k + i) = e.toBitVec.getLsbD i) → (⟨(z >>> k).setWidth 8⟩ : UInt8) = e := by
    intro z k e h
    apply UInt8.toBitVec_inj.1
    apply BitVec.eq_of_getLsbD_eq
    intro i hi
    rw [BitVec.getLsbD_setWidth, BitVec.getLsbD_ushiftRight, h i hi]
    simp [hi]
  have bits : ∀ j, (un32 a b c d).getLsbD j = ((decide (j < 32) && !decide (j < 24) && (decide (j - 24 < 32) && a.toBitVec.getLsbD (j - 24))) || (decide (j < 32) && !decide (j < 16) && (decide (j - 16 < 32) && b.toBitVec.getLsbD (j - 16))) || (decide (j < 32) && !decide (j < 8) && (decide (j - 8 < 32) && c.toBitVec.getLsbD (j - 8))) || (decide (j < 32) && d.toBitVec.getLsbD j)) := by
    intro j
    simp only [un32, BitVec.getLsbD_or, BitVec.getLsbD_shiftLeft, BitVec.getLsbD_setWidth]
  have out : ∀ (e : UInt8) (j : Nat), 8 ≤ j → e.toBitVec.getLsbD j = false := fun e j hj => BitVec.getLsbD_of_ge _ _ hj
  have h24 := key (un32 a b c d) 24 a (fun i hi => by
    rw [bits, show 24 + i - 24 = i by omega, out b _ (by omega), out c _ (by omega), out d _ (by omega)]
    simp [show 24 + i < 32 by omega, show i < 32 by omega])
  have h16 := key (un32 a b c d) 16 b (fun i hi => by
    rw [bits, show 16 + i - 16 = i by omega, out c _ (by omega), out d _ (by omega)]
    simp [show 16 + i < 24 by omega, show 16 + i < 32 by omega, show i < 32 by omega])
  have h8 := key (un32 a b c d) 8 c (fun i hi => by
    rw [bits, show 8 + i - 8 = i by omega, out d _ (by omega)]
    simp [show 8 + i < 24 by omega, show 8 + i < 16 by omega, show 8 + i < 32 by omega, show i < 32 by omega])
  have h0 := key (un32 a b c d) 0 d (fun i hi => by
    rw [bits, Nat.zero_add]
    simp [show i < 24 by omega, show i < 16 by omega, show i < 8 by omega, show i < 32 by omega])
  unfold be32
  rw [h24, h16, h8]
  rw [show (un32 a b c d) >>> 0 = un32 a b c d from rfl] at h0
  rw [h0]
theorem un32_inj {a b c d a' b' c' d' : UInt8} (h : un32 a b c d = un32 a' b' c' d') : a = a' ∧ b = b' ∧ c = c' ∧ d = d' := by
  have h1 := congrArg be32 h
  rw [un32_bytes, un32_bytes] at h1
  simpa using h1
theorem un32l_set_ge (l : List UInt8) (i : Nat) (c : UInt8) (hi : 4 ≤ i) : un32l (l.set i c) = un32l l := by
  have : ∀ j, j < 4 → (l.set i c).getD j 0 = l.getD j 0 := fun j hj => by simp [List.getD, show i ≠ j by omega]
  unfold un32l
  rw [this 0 (by omega), this 1 (by omega), this 2 (by omega), this 3 (by omega)]
theorem un32l_set_lt (l : List UInt8) (i : Nat) (c : UInt8) (hi : i < 4) (hl : i < l.length) (hc : c ≠ l[i]) : un32l (l.set i c) ≠ un32l l := by
  intro h
  unfold un32l at h
  obtain ⟨h0, h1, h2, h3⟩ := un32_inj h
  have hs : (l.set i c).getD i 0 = c := by simp [List.getD, hl]
  have hg : l.getD i 0 = l[i] := by simp [List.getD, hl]
  have : i = 0 ∨ i = 1 ∨ i = 2 ∨ i = 3 := by omega
  rcases this with rfl | rfl | rfl | rfl
  · exact hc (hs.symm.trans (h0.trans hg))
  · exact hc (hs.symm.trans (h1.trans hg))
  · exact hc (hs.symm.trans (h2.trans hg))
  · exact hc (hs.symm.trans (h3.trans hg))

theorem oneF_spoilt (p : List UInt8) (h0 : 0 < p.length) (h1 : p.length ≤ 1048576) (i : Nat) (c : UInt8) (hi : i < (record p).length) (hc : c ≠ (record p)[i]) : oneF ((record p).set i c) = .inr 11 := by
  have hl := record_length p
  have e0 : record p = be32 (BitVec.ofNat 32 p.length) ++ (be32 (crc (be32 (BitVec.ofNat 32 p.length))) ++ (p ++ be32 (crc p))) := by simp [record]
  have e4 : (record p).drop 4 = be32 (crc (be32 (BitVec.ofNat 32 p.length))) ++ (p ++ be32 (crc p)) := by rw [e0]; exact List.drop_left' rfl
  have t4 : (record p).take 4 = be32 (BitVec.ofNat 32 p.length) := by rw [e0]; exact List.take_left' rfl
  have e8 : (record p).drop 8 = p ++ be32 (crc p) := by
    rw [show 8 = 4 + 4 from rfl, ← List.drop_drop, e4]; exact List.drop_left' rfl
  have hn : (un32l (record p)).toNat = p.length := by rw [e0, un32l_be32, toNat_ofNat32 _ h1]
  have hcrc : un32l ((record p).drop 4) = crc ((record p).take 4) := by rw [e4, t4, un32l_be32]
  unfold oneF
  simp only [List.length_set]
  rw [if_neg (by omega), if_neg (by omega)]
  by_cases i4 : i < 4
  · rw [if_pos]
    left
    rw [List.drop_set_of_lt (by omega), List.take_set, hcrc]
    intro h
    refine crc_set (bs := (record p).take 4) (i := i) (by simp; omega) (c := c) ?_ h.symm
    simpa using hc
  · by_cases i8 : i < 8
    · rw [if_pos]
      left
      rw [List.take_set, List.drop_set, if_neg i4, show ((record p).take 4).set i c = (record p).take 4 from List.set_eq_of_length_le (by simp; omega), ← hcrc]
      refine un32l_set_lt _ _ _ (by omega) (by simp; omega) ?_
      simp only [List.getElem_drop, show 4 + (i - 4) = i by omega]
      exact hc
    · have hq : un32l ((record p).set i c) = un32l (record p) := un32l_set_ge _ _ _ (by omega)
      have hq4 : un32l (((record p).set i c).drop 4) = un32l ((record p).drop 4) := by rw [List.drop_set, if_neg i4]; exact un32l_set_ge _ _ _ (by omega)
      have hqt : ((record p).set i c).take 4 = (record p).take 4 := by rw [List.take_set]; exact List.set_eq_of_length_le (by simp; omega)
      rw [hq, hq4, hqt, hn, if_neg (fun h => h.elim (fun h => h hcrc) (fun h => by omega)), if_neg (by omega), List.drop_set, if_neg i8, if_pos]
      have hdl : ((record p).drop 8).length = p.length + 4 := by simp; omega
      have hpd : ((record p).drop 8).take p.length = p := by rw [e8]; exact List.take_left' rfl
      have hcd : un32l (((record p).drop 8).drop p.length) = crc (((record p).drop 8).take p.length) := by rw [hpd, e8, List.drop_left' rfl, ← List.append_nil (be32 (crc p)), un32l_be32]
      have hc8 : c ≠ ((record p).drop 8)[i - 8]'(by omega) := by
        simp only [List.getElem_drop, show 8 + (i - 8) = i by omega]; exact hc
      by_cases ip : i - 8 < p.length
      · rw [List.drop_set_of_lt (by omega), List.take_set, hcd]
        intro h
        refine crc_set (bs := ((record p).drop 8).take p.length) (i := i - 8) (by simp; omega) (c := c) ?_ h.symm
        simpa using hc8
      · rw [List.drop_set, if_neg ip, List.take_set, show (((record p).drop 8).take p.length).set (i - 8) c = ((record p).drop 8).take p.length from List.set_eq_of_length_le (by simp; omega), ← hcd]
        refine un32l_set_lt _ _ _ (by omega) (by simp; omega) ?_
        simp only [List.getElem_drop, show 8 + (p.length + (i - 8 - p.length)) = i by omega]
        exact hc
#print axioms oneF_spoilt
end Go.Isth
