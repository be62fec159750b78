/- Layer 7, plain: what lies between two keys. No program. -/
import Derived.Test.YtdekealpachhmaaDoorAvQ
namespace Go.Isth
open Go Go.Op

def below (to : Str) (x : Str × Str) : Bool := to.isEmpty || bytesLess x.1 to
def between (frm to : Str) (l : List (Str × Str)) : List (Str × Str) := l.filter fun x => !bytesLess x.1 frm && below to x
theorem drop_filter (key : Str) : ∀ l : List (Str × Str), Sorted l → l.drop (l.filter fun x => bytesLess x.1 key).length = l.filter fun x => !bytesLess x.1 key
  | [], _ => rfl
  | x :: l, hs => by
    obtain ⟨h1, h2⟩ := List.pairwise_cons.1 hs
    cases hx : bytesLess x.1 key with
    | true => rw [List.filter_cons_of_pos (by simpa using hx), List.filter_cons_of_neg (by simp [hx]), List.length_cons, List.drop_succ_cons, drop_filter key l h2]
    | false =>
      have hn : ∀ y ∈ x :: l, bytesLess y.1 key = false := fun y hy => by
        rcases List.mem_cons.1 hy with rfl | hy
        · exact hx
        · cases hk : bytesLess y.1 key with
          | false => rfl
          | true => rw [less_trans (h1 y hy) hk] at hx; cases hx
      rw [List.filter_eq_nil_iff.2 (fun y hy => by rw [hn y hy]; simp), List.filter_eq_self.2 (fun y hy => by rw [hn y hy]; rfl)]
      rfl
theorem while_filter (to : Str) : ∀ l : List (Str × Str), Sorted l → l.takeWhile (below to) = l.filter (below to)
  | [], _ => rfl
  | x :: l, hs => by
    obtain ⟨h1, h2⟩ := List.pairwise_cons.1 hs
    cases hx : below to x with
    | true => rw [List.takeWhile_cons_of_pos hx, List.filter_cons_of_pos hx, while_filter to l h2]
    | false =>
      rw [List.takeWhile_cons_of_neg (by simp [hx]), Eq.comm, List.filter_eq_nil_iff]
      intro y hy
      unfold below at hx ⊢
      simp only [Bool.or_eq_false_iff] at hx
      rcases List.mem_cons.1 hy with rfl | hy
      · rw [hx.1, hx.2]; simp
      · cases hk : bytesLess y.1 to with
        | false => rw [hx.1]; simp
        | true => rw [less_trans (h1 y hy) hk] at hx; cases hx.2
theorem sorted_drop {l : List (Str × Str)} (h : Sorted l) (k : Nat) : Sorted (l.drop k) := List.Pairwise.sublist (List.drop_sublist k l) h
theorem between_eq {l : List (Str × Str)} (h : Sorted l) (frm to : Str) : (l.drop (l.filter fun x => bytesLess x.1 frm).length).takeWhile (below to) = between frm to l := by
  rw [while_filter to _ (sorted_drop h _), drop_filter frm l h, List.filter_filter]
  unfold between
  congr 1
  funext x
  rw [Bool.and_comm]
theorem between_all (l : List (Str × Str)) : between [] [] l = l := by
  unfold between
  refine List.filter_eq_self.2 fun x _ => ?_
  have : bytesLess x.1 ([] : Str) = false := by cases x.1 <;> rfl
  rw [this]; rfl
theorem while_all {p : Str × Str → Bool} : ∀ l : List (Str × Str), (∀ x ∈ l, p x = true) → l.takeWhile p = l
  | [], _ => rfl
  | x :: l, h => by rw [List.takeWhile_cons_of_pos (h x (by simp)), while_all l (fun y hy => h y (by simp [hy]))]
theorem while_stop {p : Str × Str → Bool} (pre : List (Str × Str)) (x : Str × Str) (post : List (Str × Str)) (h : ∀ y ∈ pre, p y = true) (hx : p x = false) : (pre ++ x :: post).takeWhile p = pre := by
  induction pre with
  | nil => rw [List.nil_append, List.takeWhile_cons_of_neg (by simp [hx])]
  | cons y pre ih => rw [List.cons_append, List.takeWhile_cons_of_pos (h y (by simp)), ih (fun z hz => h z (by simp [hz]))]
def rangeO (frm to : Str) (t : Option Av) : List (Str × Str) := between frm to (pairsO t)
theorem findO_pairs {t : Option Av} (hg : Isth.Good t) (key : Str) : findO key t = ((pairsO t).filter fun x => bytesLess x.1 key).length := by
  cases t with
  | none => rfl
  | some t => exact find_pairs t key hg.2
theorem sorted_good {t : Option Av} (hg : Isth.Good t) : Sorted (pairsO t) := by
  cases t with
  | none => exact List.Pairwise.nil
  | some t => exact hg.2
theorem range_list {t : Option Av} (hg : Isth.Good t) (frm to : Str) : ((pairsO t).drop (findO frm t)).takeWhile (below to) = rangeO frm to t := by
  rw [findO_pairs hg]
  exact between_eq (sorted_good hg) frm to
theorem findO_le {t : Option Av} (hg : Isth.Good t) (key : Str) : findO key t ≤ manyO t := by
  have h1 := List.length_filter_le (fun x : Str × Str => bytesLess x.1 key) (pairsO t)
  rw [← findO_pairs hg] at h1
  have h2 : (pairsO t).length = manyO t := by cases t with | none => rfl | some t => exact t.pairs_length
  omega
theorem rangeO_le (frm to : Str) (t : Option Av) : (rangeO frm to t).length ≤ manyO t := by
  have h1 : (rangeO frm to t).length ≤ (pairsO t).length := List.length_filter_le _ _
  have h2 : (pairsO t).length = manyO t := by cases t with | none => rfl | some t => exact t.pairs_length
  omega
#print axioms between_eq
#print axioms range_list
end Go.Isth
