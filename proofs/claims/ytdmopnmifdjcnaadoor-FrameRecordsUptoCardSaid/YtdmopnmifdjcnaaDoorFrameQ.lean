/- Layer 3: records in a row, cut anywhere. No program. -/
import Derived.Test.YtdmopnmifdjcnaaDoorFrameP
namespace Go.Isth
open Go

theorem Scans.det {b : List UInt8} {ps ps' : List (List UInt8)} {a a' : Nat} {e e' : Int} (h : Scans b ps a e) (h' : Scans b ps' a' e') : ps = ps' ∧ a = a' ∧ e = e' := by
  induction h generalizing ps' a' e' with
  | stop h =>
    cases h' with
    | stop => exact ⟨rfl, rfl, rfl⟩
    | bad h2 hne => rw [h] at h2; injection h2 with h2; exact absurd h2.symm hne
    | more h2 => rw [h] at h2; cases h2
  | bad h hne =>
    cases h' with
    | stop h2 => rw [h] at h2; injection h2 with h2; exact absurd h2 hne
    | bad h2 _ => rw [h] at h2; injection h2 with h2; exact ⟨rfl, rfl, h2⟩
    | more h2 => rw [h] at h2; cases h2
  | more h _ ih =>
    cases h' with
    | stop h2 => rw [h] at h2; cases h2
    | bad h2 _ => rw [h] at h2; cases h2
    | more h2 hs2 =>
      rw [h] at h2
      injection h2 with h2
      injection h2 with h3 h4
      subst h3
      subst h4
      obtain ⟨rfl, rfl, rfl⟩ := ih hs2
      exact ⟨rfl, rfl, rfl⟩

def okp (p : List UInt8) : Prop := 0 < p.length ∧ p.length ≤ 1048576
def recs (qs : List (List UInt8)) : List UInt8 := (qs.map record).flatten
theorem recs_nil : recs [] = [] := rfl
theorem recs_cons (p : List UInt8) (qs : List (List UInt8)) : recs (p :: qs) = record p ++ recs qs := rfl
theorem recs_snoc (qs : List (List UInt8)) (p : List UInt8) : recs (qs ++ [p]) = recs qs ++ record p := by simp [recs]
theorem recs_take_succ (qs : List (List UInt8)) (k : Nat) (h : k < qs.length) : (recs (qs.take (k + 1))).length = (recs (qs.take k)).length + qs[k].length + 12 := by
  rw [List.take_succ_eq_append_getElem h, recs_snoc, List.length_append, record_length]; omega
def endsOf (qs : List (List UInt8)) : List Int := (List.range qs.length).map fun j => ((recs (qs.take (j + 1))).length : Int)
theorem endsOf_length (qs : List (List UInt8)) : (endsOf qs).length = qs.length := by simp [endsOf]
theorem endsOf_snoc (qs : List (List UInt8)) (p : List UInt8) : endsOf (qs ++ [p]) = endsOf qs ++ [((recs (qs ++ [p])).length : Int)] := by
  simp only [endsOf, List.length_append, List.length_cons, List.length_nil, Nat.zero_add, List.range_succ, List.map_append, List.map_cons, List.map_nil]
  congr 1
  · apply List.map_congr_left
    intro j hj
    rw [List.mem_range] at hj
    rw [List.take_append_of_le_length (by omega)]
  · rw [List.take_of_length_le (by simp)]
theorem endsOf_get (qs : List (List UInt8)) (k : Nat) (h : k < qs.length) : (endsOf qs)[k]? = some ((recs (qs.take (k + 1))).length : Int) := by
  simp [endsOf, h]

theorem oneF_cut (p : List UInt8) (at_ : Nat) (hp : okp p) (h0 : 0 < at_) (h1 : at_ < (record p).length) : oneF ((record p).take at_) = .inr 12 := by
  have hl : ((record p).take at_).length = at_ := by simp; omega
  have hrl := record_length p
  obtain ⟨hp0, hp1⟩ := hp
  unfold oneF
  rw [if_neg (by omega)]
  by_cases h8 : at_ < 8
  · rw [if_pos (by omega)]
  rw [if_neg (by omega)]
  have e0 : record p = be32 (BitVec.ofNat 32 p.length) ++ (be32 (crc (be32 (BitVec.ofNat 32 p.length))) ++ (p ++ be32 (crc p))) := by simp [record]
  have e1 : (record p).take at_ = be32 (BitVec.ofNat 32 p.length) ++ (be32 (crc (be32 (BitVec.ofNat 32 p.length))) ++ (p ++ be32 (crc p)).take (at_ - 8)) := by
    rw [e0, List.take_append, List.take_of_length_le (by rw [be32_length]; omega), be32_length, List.take_append, List.take_of_length_le (by rw [be32_length]; omega), be32_length, Nat.sub_sub]
  have e4 : ((record p).take at_).drop 4 = be32 (crc (be32 (BitVec.ofNat 32 p.length))) ++ (p ++ be32 (crc p)).take (at_ - 8) := by rw [e1]; exact List.drop_left' rfl
  have t4 : ((record p).take at_).take 4 = be32 (BitVec.ofNat 32 p.length) := by rw [e1]; exact List.take_left' rfl
  have hn : (un32l ((record p).take at_)).toNat = p.length := by rw [e1, un32l_be32, toNat_ofNat32 _ hp1]
  simp only [hn, e4, t4, un32l_be32]
  rw [if_neg (fun h => h.elim (fun h => h rfl) (fun h => by omega)), if_pos (by omega)]

def cutCode (a b : Nat) : Int := if a = b then 0 else 12
theorem cutCode_eq (a : Nat) : cutCode a a = 0 := if_pos rfl
theorem cutCode_ne {a b : Nat} (h : a ≠ b) : cutCode a b = 12 := if_neg h
/-- Records in a row, cut at 'at_': those ahead of the cut. -/
theorem scans_cut (qs : List (List UInt8)) (hq : ∀ p ∈ qs, okp p) : ∀ (at_ k : Nat), at_ ≤ (recs qs).length → k ≤ qs.length → (recs (qs.take k)).length ≤ at_ → (k < qs.length → at_ < (recs (qs.take (k + 1))).length) →
    Scans ((recs qs).take at_) (qs.take k) (recs (qs.take k)).length (cutCode (recs (qs.take k)).length at_) := by
  induction qs with
  | nil =>
    intro at_ k h1 h2 h3 h4
    have : at_ = 0 := by simpa [recs] using h1
    subst this
    have hk : k = 0 := by simpa using h2
    subst hk
    simp only [recs_nil, List.take_nil, List.length_nil, cutCode_eq]
    exact .stop rfl
  | cons p qs ih =>
    intro at_ k h1 h2 h3 h4
    have hp := hq p (List.mem_cons_self ..)
    have hrl := record_length p
    cases k with
    | zero =>
      have h5 := h4 (by simp)
      have e1 : recs ((p :: qs).take (0 + 1)) = record p := by simp [recs]
      rw [e1] at h5
      have e2 : (recs (p :: qs)).take at_ = (record p).take at_ := by
        rw [recs_cons, List.take_append_of_le_length (by omega)]
      rw [e2]
      simp only [List.take_zero, recs_nil, List.length_nil]
      by_cases h0 : at_ = 0
      · subst h0
        rw [cutCode_eq]
        exact .stop rfl
      · rw [cutCode_ne (fun h => h0 h.symm)]
        exact .bad (oneF_cut p at_ hp (by omega) h5) (by decide)
    | succ k =>
      rw [List.take_succ_cons, recs_cons, List.length_append] at h3
      have e3 : (recs (p :: qs)).take at_ = record p ++ (recs qs).take (at_ - (record p).length) := by
        rw [recs_cons, List.take_append, List.take_of_length_le (by omega)]
      have hone : oneF (record p ++ (recs qs).take (at_ - (record p).length)) = .inl (p, p.length + 12) := oneF_record p _ hp.1 hp.2
      have hlen : (recs (p :: qs)).length = (record p).length + (recs qs).length := by rw [recs_cons, List.length_append]
      have ih' := ih (fun q hq' => hq q (List.mem_cons_of_mem _ hq')) (at_ - (record p).length) k (by omega) (by simp at h2; omega) (by omega) (fun hk => by
        have h5 := h4 (by simp; omega)
        rw [List.take_succ_cons, recs_cons, List.length_append] at h5
        omega)
      rw [e3, List.take_succ_cons, recs_cons, List.length_append]
      have hd : (record p ++ (recs qs).take (at_ - (record p).length)).drop (p.length + 12) = (recs qs).take (at_ - (record p).length) := by
        rw [← record_length]; exact List.drop_left' rfl
      have := Scans.more hone (by rw [hd]; exact ih')
      have e5 : cutCode (recs (qs.take k)).length (at_ - (record p).length) = cutCode (p.length + 12 + (recs (qs.take k)).length) at_ := by
        by_cases hh : p.length + 12 + (recs (qs.take k)).length = at_
        · rw [hh, cutCode_eq, show at_ - (record p).length = (recs (qs.take k)).length by omega, cutCode_eq]
        · rw [cutCode_ne hh, cutCode_ne (by omega)]
      rw [e5, ← hrl] at this
      exact this

theorem scans_all (qs : List (List UInt8)) (hq : ∀ p ∈ qs, okp p) : Scans (recs qs) qs (recs qs).length 0 := by
  have := scans_cut qs hq (recs qs).length qs.length (Nat.le_refl _) (Nat.le_refl _) (by rw [List.take_length]; exact Nat.le_refl _) (fun h => absurd h (Nat.lt_irrefl _))
  rwa [List.take_length, List.take_length, cutCode_eq] at this
end Go.Isth
