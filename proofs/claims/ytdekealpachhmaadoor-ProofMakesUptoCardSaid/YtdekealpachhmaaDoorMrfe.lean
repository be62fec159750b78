/- Layer 7, plain: what lies between two keys. No program. Layer 7's reference: Find by its contract. Layer 8's reference: at, Exist by their contracts. Layer 8's reference: None by its contract. -/
import Derived.Test.YtdekealpachhmaaDoorAvQ
import Derived.Test.YtdekealpachhmaaDoorRvG
import Derived.Test.YtdekealpachhmaaDoorMref
import Derived.Test.YtdekealpachhmaaDoorMprf
import Derived.Test.YtdekealpachhmaaDoorMver

namespace Go.Isth
open Go Go.Op

def below (til : Str) (x : Str × Str) : Bool := til.isEmpty || bytesLess x.1 til
def between (frm til : Str) (l : List (Str × Str)) : List (Str × Str) := l.filter fun x => !bytesLess x.1 frm && below til x
theorem drop_filter (key : Str) : ∀ l : List (Str × Str), Sorted l → l.drop (l.filter fun x => bytesLess x.1 key).length = l.filter fun x => !bytesLess x.1 key
  | [], _ => rfl
  | x :: l, hs => by
    obtain ⟨h1, h2⟩ := List.pairwise_cons.1 hs
    cases hx : bytesLess x.1 key with
    | true => rw [List.filter_cons_of_pos (by simpa using hx), List.filter_cons_of_neg (by simp [hx]), List.length_cons, List.drop_succ_cons, drop_filter key l h2]
    | false =>
      have hn : ∀ y ∈ x :: l, bytesLess y.1 key = false := fun y hy => by
        rcases List.mem_cons.1 hy with rfl | hy
        · exact hx
        · cases hk : bytesLess y.1 key with
          | false => rfl
          | true => rw [less_trans (h1 y hy) hk] at hx; cases hx
      rw [List.filter_eq_nil_iff.2 (fun y hy => by rw [hn y hy]; simp), List.filter_eq_self.2 (fun y hy => by rw [hn y hy]; rfl)]
      rfl
theorem while_filter (til : Str) : ∀ l : List (Str × Str), Sorted l → l.takeWhile (below til) = l.filter (below til)
  | [], _ => rfl
  | x :: l, hs => by
    obtain ⟨h1, h2⟩ := List.pairwise_cons.1 hs
    cases hx : below til x with
    | true => rw [List.takeWhile_cons_of_pos hx, List.filter_cons_of_pos hx, while_filter til l h2]
    | false =>
      rw [List.takeWhile_cons_of_neg (by simp [hx]), Eq.comm, List.filter_eq_nil_iff]
      intro y hy
      unfold below at hx ⊢
      simp only [Bool.or_eq_false_iff] at hx
      rcases List.mem_cons.1 hy with rfl | hy
      · rw [hx.1, hx.2]; simp
      · cases hk : bytesLess y.1 til with
        | false => rw [hx.1]; simp
        | true => rw [less_trans (h1 y hy) hk] at hx; cases hx.2
theorem sorted_drop {l : List (Str × Str)} (h : Sorted l) (k : Nat) : Sorted (l.drop k) := List.Pairwise.sublist (List.drop_sublist k l) h
theorem between_eq {l : List (Str × Str)} (h : Sorted l) (frm til : Str) : (l.drop (l.filter fun x => bytesLess x.1 frm).length).takeWhile (below til) = between frm til l := by
  rw [while_filter til _ (sorted_drop h _), drop_filter frm l h, List.filter_filter]
  unfold between
  congr 1
  funext x
  rw [Bool.and_comm]
theorem between_all (l : List (Str × Str)) : between [] [] l = l := by
  unfold between
  refine List.filter_eq_self.2 fun x _ => ?_
  have : bytesLess x.1 ([] : Str) = false := by cases x.1 <;> rfl
  rw [this]; rfl
theorem while_all {p : Str × Str → Bool} : ∀ l : List (Str × Str), (∀ x ∈ l, p x = true) → l.takeWhile p = l
  | [], _ => rfl
  | x :: l, h => by rw [List.takeWhile_cons_of_pos (h x (by simp)), while_all l (fun y hy => h y (by simp [hy]))]
theorem while_stop {p : Str × Str → Bool} (pre : List (Str × Str)) (x : Str × Str) (post : List (Str × Str)) (h : ∀ y ∈ pre, p y = true) (hx : p x = false) : (pre ++ x :: post).takeWhile p = pre := by
  induction pre with
  | nil => rw [List.nil_append, List.takeWhile_cons_of_neg (by simp [hx])]
  | cons y pre ih => rw [List.cons_append, List.takeWhile_cons_of_pos (h y (by simp)), ih (fun z hz => h z (by simp [hz]))]
def rangeO (frm til : Str) (t : Option Av) : List (Str × Str) := between frm til (pairsO t)
theorem findO_pairs {t : Option Av} (hg : Isth.Good t) (key : Str) : findO key t = ((pairsO t).filter fun x => bytesLess x.1 key).length := by
  cases t with
  | none => rfl
  | some t => exact find_pairs t key hg.2
theorem sorted_good {t : Option Av} (hg : Isth.Good t) : Sorted (pairsO t) := by
  cases t with
  | none => exact List.Pairwise.nil
  | some t => exact hg.2
theorem range_list {t : Option Av} (hg : Isth.Good t) (frm til : Str) : ((pairsO t).drop (findO frm t)).takeWhile (below til) = rangeO frm til t := by
  rw [findO_pairs hg]
  exact between_eq (sorted_good hg) frm til
theorem findO_le {t : Option Av} (hg : Isth.Good t) (key : Str) : findO key t ≤ manyO t := by
  have h1 := List.length_filter_le (fun x : Str × Str => bytesLess x.1 key) (pairsO t)
  rw [← findO_pairs hg] at h1
  have h2 : (pairsO t).length = manyO t := by cases t with | none => rfl | some t => exact t.pairs_length
  omega
theorem rangeO_le (frm til : Str) (t : Option Av) : (rangeO frm til t).length ≤ manyO t := by
  have h1 : (rangeO frm til t).length ≤ (pairsO t).length := List.length_filter_le _ _
  have h2 : (pairsO t).length = manyO t := by cases t with | none => rfl | some t => exact t.pairs_length
  omega
#print axioms between_eq
#print axioms range_list
end Go.Isth

namespace Go.Isth
open Go Go.Op
theorem prefix_find : ∀ (l : List (Str × Str)) (k : Nat) (key : Str), Sorted l → k ≤ l.length → (∀ (j : Nat) p, j < k → l[j]? = some p → bytesLess p.1 key = true) → (∀ p, l[k]? = some p → bytesLess p.1 key = false) → (l.filter fun x => bytesLess x.1 key).length = k
  | [], k, key, _, hk, _, _ => by
    obtain rfl : k = 0 := by simpa using hk
    rfl
  | x :: l, 0, key, hs, _, _, h2 => by
    obtain ⟨h1, _⟩ := List.pairwise_cons.1 hs
    have hx := h2 x rfl
    rw [List.length_eq_zero_iff, List.filter_eq_nil_iff]
    intro z hz
    rcases List.mem_cons.1 hz with rfl | hz
    · rw [hx]; simp
    · cases hzk : bytesLess z.1 key with
      | false => simp
      | true => rw [less_trans (h1 z hz) hzk] at hx; cases hx
  | x :: l, k + 1, key, hs, hk, h1, h2 => by
    obtain ⟨_, hs2⟩ := List.pairwise_cons.1 hs
    rw [List.filter_cons, if_pos (h1 0 x (by omega) rfl), List.length_cons, prefix_find l k key hs2 (by simpa using hk) (fun j p hj hp => h1 (j + 1) p (by omega) (by simpa using hp)) (fun p hp => h2 p (by simpa using hp))]
end Go.Isth
namespace Go.Proofs.YtdekealpachhmaaDoor
open Go Go.RowKit Go.Isth

def RFindInv (w : World) (l : List (Str × Str)) (key : Str) (n : Value) (wr : World) : Prop := ∃ k : Nat, n = .int .i64 (k : Nat) ∧ k ≤ l.length ∧ (∀ (j : Nat) p, j < k → l[j]? = some p → Op.bytesLess p.1 key = true) ∧ wr = w
set_option maxRecDepth 100000 in
set_option maxHeartbeats 1000000 in
theorem rfind_any (t : Option Av) (key : Str) (cs : List Value) (w : World) (h : RO w t cs) (hg : Isth.Good t) (hm : manyO t ≤ 900000) :
    Calls Tryd.prog 39 #[.agg cs.toArray, S8 key] w fun e w' => e = .returned (.int .i64 (findO key t : Nat)) ∧ Below w.heap.size w w' := by
  have hl := h.len
  have hz := Blk_new w cs 26
  have hb0 : Below w.heap.size w (w.alloc (.cells cs.toArray 26)) := (Below.refl _ _).alloc (Nat.le_refl _) _
  have HLD := Lib.hid (run_load_agg (P := Tryd.prog) Tryd.underlying26 rfl (by kernel_rfl) (w.alloc (.cells cs.toArray 26)) ⟨w.heap.size, 0, none⟩ cs hl (fun j u hj => by rw [add_plain, Nat.zero_add]; exact hz.cellD j u hj))
  have HT := Lib.hid (And.intro (h.below hb0) (And.intro hg (And.intro hm hb0)))
  go_enter Tryd.func39, Tryd.ntmps39
  go_upto_region 1 with fail
  change Code.wp _ _ _ _ (w.alloc (.cells cs.toArray 26))
  generalize w.alloc (.cells cs.toArray 26) = w0 at *
  clear h hg hm hl hz hb0
  go_wp2_with (refine wpList_load rfl (.tmp 2) rfl ⟨w.heap.size, 0, none⟩ (.agg cs.toArray) rfl HLD.out ?_)
  refine (rpairs_any t cs w0 HT.out.1 HT.out.2.2.1).mono ?_
  rintro e wc ⟨A, c, rfl, hc, hr, hb⟩
  have H1 := Lib.hid (And.intro hr (And.intro hc (below_then HT.out.2.2.2 HT.out.2.2.2.size hb)))
  obtain ⟨n, hn⟩ : ∃ n, manyO t = n := ⟨_, rfl⟩
  have HN := Lib.hid (show (pairsO t).length = n by rw [← hn]; exact pairsO_length t)
  rw [hn]
  clear hr hc hb hn
  go_wp2_with fail
  go_loopw [6] (fun i wr => RFindInv wc (pairsO t) key i wr) (fun i _ => n - (intOf i).toNat)
  case atStart => exact ⟨0, rfl, Nat.zero_le _, fun j p h => by omega, rfl⟩
  case round =>
    obtain ⟨k, rfl, hk, hno, hw⟩ := hrel
    obtain rfl : wc = wr := hw.symm
    rw [HN.out] at hk
    have HNO := Lib.hid hno
    clear hno hw
    rcases Nat.lt_or_ge k n with hkn | hkn
    · obtain ⟨p, hp⟩ : ∃ p, (pairsO t)[k]? = some p := ⟨_, List.getElem?_eq_getElem (by rw [HN.out]; exact hkn)⟩
      obtain ⟨b, o, rfl, hcl⟩ := H1.out.1 (by rw [pairsC_len, HN.out]; omega)
      have e1 := hcl _ _ (pairsC_cells _ _ _ hp).1
      have hk1 : (k : Int) < (n : Int) := by omega
      have HP := Lib.hid hp
      have hm9 : n ≤ 900000 := by have := HT.out.2.2.1; have := HN.out; have := pairsO_length t; omega
      clear hp hcl
      cases hb : Op.bytesLess p.1 key with
      | true =>
        go_wp2
        refine ⟨⟨k + 1, by simp, by rw [HN.out]; omega, fun j q hj hq => ?_, rfl⟩, ?_⟩
        · rcases Nat.lt_or_ge j k with hjk | hjk
          · exact HNO.out j q hjk hq
          · obtain rfl : j = k := by omega
            rw [HP.out] at hq
            obtain rfl := Option.some.inj hq
            exact hb
        · show n - (Int.toNat ((k : Int) + 1)) < n - Int.toNat (k : Int)
          omega
      | false =>
        go_wp2
        go_ret
        refine ⟨?_, H1.out.2.2⟩
        rw [findO_pairs HT.out.2.1, prefix_find (pairsO t) k key (sorted_good HT.out.2.1) (by rw [HN.out]; omega) HNO.out (fun q hq => by rw [HP.out] at hq; obtain rfl := Option.some.inj hq; exact hb)]
        rfl
    · have hk1 : ¬ (k : Int) < (n : Int) := by omega
      go_wp2
      go_ret
      refine ⟨?_, H1.out.2.2⟩
      rw [findO_pairs HT.out.2.1, prefix_find (pairsO t) k key (sorted_good HT.out.2.1) (by rw [HN.out]; omega) HNO.out (fun q hq => by rw [List.getElem?_eq_none (by rw [HN.out]; exact hkn)] at hq; cases hq)]
      rfl
end Go.Proofs.YtdekealpachhmaaDoor

namespace Go.Proofs.YtdekealpachhmaaDoor
open Go Go.RowKit Go.Isth

set_option maxRecDepth 100000 in
set_option maxHeartbeats 2000000 in
theorem rat_any (t : Av) (i : Nat) (cs : List Value) (w : World) (h : RC w t cs) (hi : i < t.many) (hm : t.many ≤ 900000) (hs : SmallP t.pairs) :
    Calls Tryd.prog 83 #[.agg cs.toArray, .int .i64 (i : Nat)] w fun e w' => ∃ cp : List Value, e = .returned (.agg cp.toArray) ∧ PrfC w.heap.size w' (madeP t i) cp ∧ Below w.heap.size w w' := by
  have hl := h.len
  obtain ⟨pk, pv, hpp⟩ : ∃ a b, t.at_ i = (a, b) := ⟨_, _, rfl⟩
  have HPP := Lib.hid hpp
  have HS := Lib.hid hs
  obtain ⟨xa, hxa⟩ : ∃ n, n = w.heap.size := ⟨_, rfl⟩
  obtain ⟨w1, hw1⟩ : ∃ w1, w1 = w.alloc (.cells cs.toArray 26) := ⟨_, rfl⟩
  obtain ⟨w2, hw2⟩ : ∃ w2, w2 = w1.alloc (.cells noPrf.toArray 98) := ⟨_, rfl⟩
  have s1 : w1.heap.size = xa + 1 := by rw [hw1, World.size_alloc, hxa]
  have s2 : w2.heap.size = xa + 1 + 1 := by rw [hw2, World.size_alloc, s1]
  have b1 : Below w.heap.size w w1 := by rw [hw1]; exact (Below.refl _ _).alloc (Nat.le_refl _) _
  have b2 : Below w.heap.size w w2 := by rw [hw2]; exact b1.alloc b1.size _
  have z1 : Blk w2 xa 26 cs := by rw [hw2, hw1, hxa]; exact (Blk_new w cs 26).alloc _
  have z2 : Blk w2 (xa + 1) 98 noPrf := by rw [← s1, hw2]; exact Blk_new w1 noPrf 98
  have HLD := Lib.hid (ld_tree z1 hl)
  have HL4 := Lib.hid hl
  have HT := Lib.hid (RC.below b2 h)
  have HI := Lib.hid (And.intro hi hm)
  have HW := Lib.hid (And.intro b2 (And.intro z1 z2))
  have HXA := Lib.hid (And.intro hxa s2)
  have hi9 : i < 900000 := by omega
  clear hpp hs
  go_enter Tryd.func83, Tryd.ntmps83
  go_upto_region 1 with fail
  change Code.wp _ _ _ _ ((w.alloc (.cells cs.toArray 26)).alloc (.cells noPrf.toArray 98))
  rw [← hw1, ← hw2, ← hxa]
  clear hw1 hw2 s1 s2 b1 b2 z1 z2 h hl hm hxa
  go_wp2_with (refine wpList_load rfl (.tmp 2) rfl ⟨xa, 0, none⟩ (.agg cs.toArray) rfl HLD.out ?_)
  refine (rpairs_tree t cs w2 HT.out HI.out.2).mono ?_
  rintro e w3 ⟨v, rfl, ho, hb⟩
  obtain ⟨n, hn⟩ : ∃ n, t.many = n := ⟨_, rfl⟩
  rw [hn] at ho
  obtain ⟨A, c, rfl, _, hr, _⟩ := own_slice ho
  have hp := t.at_pairs i HI.out.1
  rw [HPP.out] at hp
  obtain ⟨b, o, rfl, hcl⟩ := hr (by have h := (pairsC_cells _ _ _ hp).1; have := (List.getElem?_eq_some_iff.1 h).1; omega)
  have e1 := hcl _ _ (pairsC_cells _ _ _ hp).1
  have e2 := hcl _ _ (pairsC_cells _ _ _ hp).2
  rw [← Nat.add_assoc] at e2
  have hin : (i : Int) < (n : Int) := by have := HI.out.1; omega
  have HW := Lib.hid (And.intro (below_then HW.out.1 HW.out.1.size hb) (And.intro (HW.out.2.1.below hb) (HW.out.2.2.below hb)))
  have HT := Lib.hid (RC.below hb HT.out)
  have HX3 := Lib.hid (Nat.le_trans (Nat.le_of_eq HXA.out.2.symm) hb.size)
  clear ho hr hp hcl hn hb hi
  go_upto_region 2 with fail
  obtain ⟨w4, hw4⟩ : ∃ w4, w4 = w3.alloc (.cells #[S8 pk, S8 pv] 38) := ⟨_, rfl⟩
  obtain ⟨x5, hx5⟩ : ∃ n, n = w3.heap.size := ⟨_, rfl⟩
  have b4 : Below w3.heap.size w3 w4 := by rw [hw4]; exact (Below.refl _ _).alloc (Nat.le_refl _) _
  have z5 : Blk w4 x5 38 [S8 pk, S8 pv] := by rw [hw4, hx5]; exact Blk_new w3 [S8 pk, S8 pv] 38
  rw [← hw4, ← hx5]
  have HW := Lib.hid (And.intro (below_then HW.out.1 HW.out.1.size b4) (And.intro (HW.out.2.1.below b4) (HW.out.2.2.below b4)))
  have HT := Lib.hid (RC.below b4 HT.out)
  have HZ5 := Lib.hid z5
  have HLD := Lib.hid (ld_tree HW.out.2.1 HL4.out)
  have HX4 := Lib.hid (Nat.le_trans HX3.out b4.size)
  clear hw4 hx5 b4 z5 e1 e2
  go_wp2_with (refine wpList_load rfl (.tmp 2) rfl ⟨xa, 0, none⟩ (.agg cs.toArray) rfl HLD.out ?_)
  refine (rpath_tree t i cs w4 HT.out HI.out.1 HI.out.2 HS.out).mono ?_
  rintro e w5 ⟨vp, rfl, ho, hb⟩
  obtain ⟨A', c', rfl, hc', hrd, _, hbl⟩ := own_slice ho
  have c0 := cell_below (HZ5.out.cellD 0 _ rfl) hb
  have c1 := cell_below (HZ5.out.cellD 1 _ rfl) hb
  have HW := Lib.hid (And.intro (below_then HW.out.1 HW.out.1.size hb) (HW.out.2.2.below hb))
  have HR := Lib.hid (And.intro hc' (And.intro hrd (show ∀ ad, A' = some ad → xa + 1 < ad.block from fun ad e => by have h1 := (hbl ad e).1; have := HX4.out; omega)))
  obtain ⟨m, hn⟩ : ∃ n, (t.path i).length = n := ⟨_, rfl⟩
  rw [hn]
  have HN := Lib.hid hn
  clear ho hb hc' hrd hn hbl
  go_wp2_with (refine wpList_store_blk rfl 98 (.tmp 4) _ rfl (xa + 1) [S8 pk, S8 pv, .slice A' m c'] rfl rfl 98 _ HW.out.2 (by kernel_rfl) rfl (prf_one pk pv A' m c') ?_; intro w8 hw8 hg8)
  refine bodyPost_ret (results_blk rfl _ _ (xa + 1) 98 [S8 pk, S8 pv, .slice A' m c'] _ rfl hw8 Tryd.underlying98 rfl (by kernel_rfl)) rfl ⟨_, rfl, ?_, ?_⟩
  · have hl : (madeP t i).steps.length = m := by rw [← HN.out]; simp [madeP]
    refine ⟨A', c', ?_, ?_, ?_, fun ad e => by have := HR.out.2.2 ad e; have := HXA.out.1; omega⟩
    · rw [hl]
      simp only [madeP, HPP.out]
    · rw [hl, ← HN.out]; exact HR.out.1
    · rw [show (madeP t i).steps = (t.path i).map toI from rfl, stepsIC_map]
      exact HR.out.2.1.grown hg8 (fun ad e e' => by have := HR.out.2.2 ad e; injection e' with e'; omega)
  · exact HW.out.1.grown hg8 HW.out.1.size (fun q e => by injection e with e; have := HXA.out.1; omega)
set_option maxRecDepth 100000 in
set_option maxHeartbeats 2000000 in
theorem rexist_yes (t : Av) (key v : Str) (i : Nat) (cs : List Value) (w : World) (h : RC w t cs) (hg : Isth.Good (some t)) (hv : t.get key = some v) (hf : t.find key = i) (hm : t.many ≤ 900000) (hs : SmallP t.pairs) :
    Calls Tryd.prog 48 #[.agg cs.toArray, S8 key] w fun e w' => ∃ cp : List Value, e = .returned (.tuple #[.agg cp.toArray, .int .i64 0]) ∧ PrfC w.heap.size w' (madeP t i) cp ∧ Below w.heap.size w w' := by
  have hl := h.len
  have HI := Lib.hid (And.intro hf (show i < t.many by rw [← hf]; exact (get_find hg.2 hv).1))
  have HV := Lib.hid hv
  obtain ⟨xa, hxa⟩ : ∃ n, n = w.heap.size := ⟨_, rfl⟩
  obtain ⟨w1, hw1⟩ : ∃ w1, w1 = w.alloc (.cells cs.toArray 26) := ⟨_, rfl⟩
  obtain ⟨w2, hw2⟩ : ∃ w2, w2 = w1.alloc (.cells noPrf.toArray 98) := ⟨_, rfl⟩
  have s1 : w1.heap.size = xa + 1 := by rw [hw1, World.size_alloc, hxa]
  have s2 : w2.heap.size = xa + 1 + 1 := by rw [hw2, World.size_alloc, s1]
  have b1 : Below w.heap.size w w1 := by rw [hw1]; exact (Below.refl _ _).alloc (Nat.le_refl _) _
  have b2 : Below w.heap.size w w2 := by rw [hw2]; exact b1.alloc b1.size _
  have z1 : Blk w2 xa 26 cs := by rw [hw2, hw1, hxa]; exact (Blk_new w cs 26).alloc _
  have z2 : Blk w2 (xa + 1) 98 noPrf := by rw [← s1, hw2]; exact Blk_new w1 noPrf 98
  have HLD := Lib.hid (ld_tree z1 hl)
  have HT := Lib.hid (And.intro (RC.below b2 h) (And.intro hg (And.intro hm hs)))
  have HW0 := Lib.hid b2
  have HZ1 := Lib.hid z1
  have HX := Lib.hid z2
  have HXA := Lib.hid (And.intro hxa (show xa + 1 < w2.heap.size by omega))
  have ics : (Tryd.prog.info? 26).map (·.size) = some cs.length := by rw [hl]; kernel_rfl
  have uT := Tryd.underlying26
  clear hf hv
  go_enter Tryd.func48, Tryd.ntmps48
  go_upto_region 1 with fail
  change Code.wp _ _ _ _ ((w.alloc (.cells cs.toArray 26)).alloc (.cells noPrf.toArray 98))
  rw [← hw1, ← hw2, ← hxa]
  clear hw1 hw2 s1 s2 b1 b2 z1 z2 h hg hm hs hl hxa
  go_wp2_with (refine wpList_load rfl (.tmp 2) rfl ⟨xa, 0, none⟩ (.agg cs.toArray) rfl HLD.out ?_)
  refine (rget_any (some t) key cs w2 HT.out.1 HT.out.2.1 HT.out.2.2.1).mono ?_
  rintro e w3 ⟨rfl, hb⟩
  rw [show getO key (some t) = some v from HV.out]
  unfold getVal
  have HT := Lib.hid (And.intro (RC.below hb HT.out.1) HT.out.2)
  have HW0 := Lib.hid (below_then HW0.out HW0.out.size hb)
  have HX := Lib.hid (HX.out.below hb)
  have HXA := Lib.hid (And.intro HXA.out.1 (Nat.lt_of_lt_of_le HXA.out.2 hb.size))
  have HTS : Hid (∀ w', Off w3 (xa + 1) w' → w'.rangeAt xa 0 cs) := Lib.hid fun w' h => range_off (range_below (blk_range HZ1.out) hb) h (by omega)
  have HB : Hid (Below w3.heap.size w3 (w3.drewN 1)) := Lib.hid (refl_drewN w3 1)
  clear hb
  go_wp2_with fail
  refine wp_region_held_drew (S := (fun w' => w'.rangeAt xa 0 cs)) (by kernel_rfl) ?qs0 (fun hHeld => ?_)
  case qs0 => exact HTS.out _ (off_below HB.out)
  refine held_row (i := 0) rfl (by kernel_rfl) (by kernel_rfl) (by kernel_rfl) _ _ rfl _ _ rfl ?q1C ?q1D (fun _ _ _ h => h) (by rfl) ?q1a ?q1b ?q1c ?q1d hHeld ?_
  case q1a => (intro w hSw; (try dsimp only at hSw); go_split_ands; assumption)
  case q1b => assumption
  case q1c => rfl
  case q1d => first | assumption | (simp only [*]; done)
  try simp only [Act.put, List.setIfInBounds_toArray, List.set_cons_zero, List.set_cons_succ]
  refine held_row (i := 1) rfl (by kernel_rfl) (by kernel_rfl) (by kernel_rfl) _ _ rfl _ _ rfl ?q2C ?q2D (fun _ _ _ h => h) (by rfl) ?q2a ?q2b ?q2c ?q2d hHeld ?_
  case q2a => (intro w hSw; (try dsimp only at hSw); go_split_ands; assumption)
  case q2b => assumption
  case q2c => rfl
  case q2d => first | assumption | (simp only [*]; done)
  try simp only [Act.put, List.setIfInBounds_toArray, List.set_cons_zero, List.set_cons_succ]
  refine held_take (i := 2) (v := ?q3v) rfl (by kernel_rfl) (by kernel_rfl) (by kernel_rfl) (fun _ _ _ h => h) (by rfl) ?q3y hHeld ?_
  case q3y => ((intro w _hSw; (try dsimp only at _hSw); go_simp); try (with_reducible rfl))
  try simp only [Act.put, List.setIfInBounds_toArray, List.set_cons_zero, List.set_cons_succ]
  refine held_step (i := 3) rfl (by kernel_rfl) (by rfl) (fun K hK => ?_)
  go_simp
  refine (rfind_any (some t) key cs _ (HT.out.1.below HB.out) HT.out.2.1 HT.out.2.2.1).mono ?_
  rintro e wc ⟨rfl, hb⟩
  rw [show findO key (some t) = i from HI.out.1]
  have HB := Lib.hid (below_then HB.out HB.out.size hb)
  clear hb
  go_wp2_with fail
  have hHeld := HTS.out _ (off_below HB.out)
  refine hK.out _ _ (HTS.out _ (off_below HB.out)) ?_
  clear hK K
  try simp only [Act.put, List.setIfInBounds_toArray, List.set_cons_zero, List.set_cons_succ]
  refine held_step (i := 4) rfl (by kernel_rfl) (by rfl) (fun K hK => ?_)
  go_simp
  refine (rat_any t i cs _ (HT.out.1.below HB.out) HI.out.2 HT.out.2.2.1 HT.out.2.2.2).mono ?_
  rintro e wc ⟨cp, rfl, hp, hb⟩
  have HP := Lib.hid (hp.mono (show xa + 1 + 1 ≤ _ from Nat.le_trans HXA.out.2 HB.out.size))
  have HB := Lib.hid (below_then HB.out HB.out.size hb)
  clear hp hb
  go_wp2_with fail
  have hHeld := HTS.out _ (off_below HB.out)
  refine hK.out _ _ (HTS.out _ (off_below HB.out)) ?_
  clear hK K
  try simp only [Act.put, List.setIfInBounds_toArray, List.set_cons_zero, List.set_cons_succ]
  refine held_step (i := 5) rfl (by kernel_rfl) (by rfl) (fun K hK => ?_)
  refine wp_store_blk 98 (.tmp 4) (.tmp 21) rfl (xa + 1) cp rfl rfl 98 _ (HX.out.below HB.out) (by rw [HP.out.len]; kernel_rfl) (by rw [HP.out.len]; rfl) HP.out.one ?_
  intro w9 hz hg
  have H9 := Lib.hid (And.intro hz (And.intro ((below_then HW0.out HW0.out.size HB.out).grown hg (below_then HW0.out HW0.out.size HB.out).size (fun q e => by injection e with e; have := HXA.out; omega)) (HP.out.store hg (Nat.lt_succ_self _))))
  have HS9 := Lib.hid (off_store HB.out hg)
  clear hz hg
  have hHeld := HTS.out _ HS9.out
  refine hK.out _ _ (HTS.out _ HS9.out) ?_
  clear hK K
  (try simp only [Act.put]); (try simp only [List.setIfInBounds_toArray]); (try simp only [List.set_cons_succ]); (try simp only [List.set_cons_zero])
  refine held_take (i := 6) (v := ?q4v) rfl (by kernel_rfl) (by kernel_rfl) (by kernel_rfl) (fun _ _ _ h => h) (by rfl) ?q4y hHeld ?_
  case q4y => ((intro w _hSw; (try dsimp only at _hSw); go_simp); try (with_reducible rfl))
  try simp only [Act.put, List.setIfInBounds_toArray, List.set_cons_zero, List.set_cons_succ]
  refine wpAnyH_done (by kernel_rfl) ?_ _
  clear hHeld
  go_wp2
  refine bodyPost_ret (results_blk2 rfl _ _ (xa + 1) 98 cp _ rfl H9.out.1 Tryd.underlying98 rfl (by rw [HP.out.len]; kernel_rfl)) rfl ⟨_, rfl, H9.out.2.2.mono (by have := HXA.out.1; omega), H9.out.2.1⟩
set_option maxRecDepth 100000 in
set_option maxHeartbeats 2000000 in
theorem rexist_no (t : Option Av) (key : Str) (cs : List Value) (w : World) (h : RO w t cs) (hg : Isth.Good t) (hv : getO key t = none) (hm : manyO t ≤ 900000) :
    Calls Tryd.prog 48 #[.agg cs.toArray, S8 key] w fun e w' => e = .returned (.tuple #[.agg noPrf.toArray, .int .i64 8]) ∧ Below w.heap.size w w' := by
  have hl := h.len
  have HV := Lib.hid hv
  obtain ⟨xa, hxa⟩ : ∃ n, n = w.heap.size := ⟨_, rfl⟩
  obtain ⟨w1, hw1⟩ : ∃ w1, w1 = w.alloc (.cells cs.toArray 26) := ⟨_, rfl⟩
  obtain ⟨w2, hw2⟩ : ∃ w2, w2 = w1.alloc (.cells noPrf.toArray 98) := ⟨_, rfl⟩
  have s1 : w1.heap.size = xa + 1 := by rw [hw1, World.size_alloc, hxa]
  have b1 : Below w.heap.size w w1 := by rw [hw1]; exact (Below.refl _ _).alloc (Nat.le_refl _) _
  have b2 : Below w.heap.size w w2 := by rw [hw2]; exact b1.alloc b1.size _
  have z1 : Blk w2 xa 26 cs := by rw [hw2, hw1, hxa]; exact (Blk_new w cs 26).alloc _
  have z2 : Blk w2 (xa + 1) 98 noPrf := by rw [← s1, hw2]; exact Blk_new w1 noPrf 98
  have HLD := Lib.hid (ld_tree z1 hl)
  have HT := Lib.hid (And.intro (RO.below b2 h) (And.intro hg hm))
  have HW0 := Lib.hid b2
  have HX := Lib.hid z2
  have HXA := Lib.hid hxa
  clear hv
  go_enter Tryd.func48, Tryd.ntmps48
  go_upto_region 1 with fail
  change Code.wp _ _ _ _ ((w.alloc (.cells cs.toArray 26)).alloc (.cells noPrf.toArray 98))
  rw [← hw1, ← hw2, ← hxa]
  clear hw1 hw2 s1 b1 b2 z1 z2 h hg hm hl hxa
  go_wp2_with (refine wpList_load rfl (.tmp 2) rfl ⟨xa, 0, none⟩ (.agg cs.toArray) rfl HLD.out ?_)
  refine (rget_any t key cs w2 HT.out.1 HT.out.2.1 HT.out.2.2).mono ?_
  rintro e w3 ⟨rfl, hb⟩
  rw [HV.out]
  unfold getVal
  have HW0 := Lib.hid (below_then HW0.out HW0.out.size hb)
  have HX := Lib.hid (HX.out.below hb)
  clear hb
  go_wp2_with (refine wpList_store_blk rfl 98 (.tmp 4) _ rfl (xa + 1) noPrf rfl rfl 98 _ HX.out (by kernel_rfl) rfl noPrf_one ?_; intro w9 hz hg)
  refine bodyPost_ret (results_blk2 rfl _ _ (xa + 1) 98 noPrf _ rfl hz Tryd.underlying98 rfl (by kernel_rfl)) rfl ⟨rfl, ?_⟩
  exact HW0.out.grown hg HW0.out.size (fun q e => by injection e with e; have := HXA.out; omega)
end Go.Proofs.YtdekealpachhmaaDoor

namespace Go.Proofs.YtdekealpachhmaaDoor
open Go Go.RowKit Go.Isth

theorem tPr8 : SlT Tryd.prog 101 98 (.agg #[S8 [], S8 [], .slice none 0 0]) 3 56 := ⟨Tryd.underlying101, by kernel_rfl, rfl, by decide⟩
theorem alloc_of {w0 w : World} (_h : Below w0.heap.size w0 w) (o : Obj) : Below w.heap.size w (w.alloc o) := (Below.refl _ _).alloc (Nat.le_refl _) _
theorem alloc_named {w0 w : World} (_h : Below w0.heap.size w0 w) (o : Obj) : ∃ wn, wn = w.alloc o := ⟨_, rfl⟩
theorem setc_of {w0 w : World} (_h : Below w0.heap.size w0 w) (x j : Nat) (v : Value) : w.grownBy (w.setCell ⟨x, j, none⟩ v) (some x) := grown_setC _ _ _ _
theorem RC.storeT {w w' : World} {x : Nat} {ty : TypeId} {old : List Value} (hty : 26 ≠ ty) (hx : Blk w x ty old) (hg : w.grownBy w' (some x)) : ∀ {t : Av} {cs : List Value}, RC w t cs → RC w' t cs
  | .leaf _ _, _, h => h
  | .node _ _, _, h => by
    obtain ⟨g, ca, cb, e, h1, h2, h3⟩ := h
    refine ⟨g, ca, cb, e, h1.grown hg (fun e => ?_), RC.storeT hty hx hg h2, RC.storeT hty hx hg h3⟩
    injection e with e
    exact h1.type_ne hx hty e.symm
/-- A list whose rows and steps lie from n on. -/
def ListQ (n : Nat) (w : World) (v : Value) (ps : List PrfV) : Prop :=
  ∃ A c, v = .slice A ps.length c ∧ ps.length ≤ c ∧ (∀ ad, A = some ad → n ≤ ad.block) ∧ ∀ (i : Nat) (p : PrfV), ps[i]? = some p → ∃ b o cs, A = some ⟨b, o, none⟩ ∧ w.rangeAt b (o + i * 3) cs ∧ PrfC n w p cs
theorem ListQ.nil (n : Nat) (w : World) : ListQ n w (.slice none 0 0) [] := ⟨none, 0, rfl, Nat.le_refl _, by simp, fun i p h => by simp at h⟩
theorem ListQ.list {n : Nat} {w : World} {v : Value} {ps : List PrfV} (h : ListQ n w v ps) : ListP w v ps := by
  obtain ⟨A, c, e, hc, _, hi⟩ := h
  refine ⟨A, c, e, hc, fun i p hp => ?_⟩
  obtain ⟨b, o, cs, e, hr, hp⟩ := hi i p hp
  exact ⟨b, o, cs, e, hr, hp.mono (Nat.zero_le _)⟩
theorem ListQ.below {n : Nat} {w w' : World} {v : Value} {ps : List PrfV} (h : ListQ n w v ps) (hb : Below w.heap.size w w') : ListQ n w' v ps := by
  obtain ⟨A, c, e, hc, hA, hi⟩ := h
  refine ⟨A, c, e, hc, hA, fun i p hp => ?_⟩
  obtain ⟨b, o, cs, e, hr, hp⟩ := hi i p hp
  exact ⟨b, o, cs, e, range_below hr hb, hp.below hb⟩
theorem ListQ.store {n x : Nat} {w w' : World} {v : Value} {ps : List PrfV} (h : ListQ n w v ps) (hg : w.grownBy w' (some x)) (hx : x < n) : ListQ n w' v ps := by
  obtain ⟨A, c, e, hc, hA, hi⟩ := h
  refine ⟨A, c, e, hc, hA, fun i p hp => ?_⟩
  obtain ⟨b, o, cs, e, hr, hp⟩ := hi i p hp
  have hb := hA _ e
  simp only at hb
  exact ⟨b, o, cs, e, fun j u hu => cell_grown (hr j u hu) hg (by intro e; injection e with e; omega), hp.store hg hx⟩
theorem ListQ.one {n : Nat} {w : World} {v : Value} {ps : List PrfV} (h : ListQ n w v ps) : v.oneCell' = true := by
  obtain ⟨A, c, rfl, _⟩ := h
  rfl
theorem listP_row {n x : Nat} {w w' : World} {A : Option Addr} {c : Nat} {cp : List Value} {p : PrfV} (hc : 0 + 1 ≤ c) (hr : Rd w A ([] ++ cp)) (hb : ∀ ad, A = some ad → n ≤ ad.block) (hp : PrfC n w p cp) (hg : w.grownBy w' (some x)) (hx : x < n) : ListQ n w' (.slice A 1 c) [p] := by
  refine ⟨A, c, rfl, hc, hb, fun i q hq => ?_⟩
  cases i with
  | succ i => simp at hq
  | zero =>
    obtain rfl : p = q := by simpa using hq
    obtain ⟨b, o, rfl, hcl⟩ := hr (by have := hp.len; simp [this])
    have hbx := hb _ rfl
    simp only at hbx
    refine ⟨b, o, cp, rfl, fun j u hu => ?_, hp.store hg hx⟩
    rw [Nat.zero_mul, Nat.add_zero]
    exact cell_grown (hcl j u hu) hg (by intro e; injection e with e; omega)
theorem two_one {a b : Value} (ha : a.oneCell' = true) (hb : b.oneCell' = true) : ∀ u ∈ ([a, b] : List Value), u.oneCell' = true := by
  intro u hu
  simp only [List.mem_cons, List.not_mem_nil, or_false] at hu
  rcases hu with rfl | rfl
  · exact ha
  · exact hb
set_option maxRecDepth 100000 in
set_option maxHeartbeats 2000000 in
theorem rnone_no (t : Option Av) (key u : Str) (cs : List Value) (w : World) (h : RO w t cs) (hg : Isth.Good t) (hv : getO key t = some u) (hm : manyO t ≤ 900000) :
    Calls Tryd.prog 49 #[.agg cs.toArray, S8 key] w fun e w' => e = .returned (.tuple #[.agg noAbs.toArray, .int .i64 9]) ∧ Below w.heap.size w w' := by
  have hl := h.len
  have HV := Lib.hid hv
  obtain ⟨xa, hxa⟩ : ∃ n, n = w.heap.size := ⟨_, rfl⟩
  obtain ⟨w1, hw1⟩ : ∃ w1, w1 = w.alloc (.cells cs.toArray 26) := ⟨_, rfl⟩
  obtain ⟨w2, hw2⟩ : ∃ w2, w2 = w1.alloc (.cells noAbs.toArray 103) := ⟨_, rfl⟩
  have s1 : w1.heap.size = xa + 1 := by rw [hw1, World.size_alloc, hxa]
  have b1 : Below w.heap.size w w1 := by rw [hw1]; exact (Below.refl _ _).alloc (Nat.le_refl _) _
  have b2 : Below w.heap.size w w2 := by rw [hw2]; exact b1.alloc b1.size _
  have z1 : Blk w2 xa 26 cs := by rw [hw2, hw1, hxa]; exact (Blk_new w cs 26).alloc _
  have z2 : Blk w2 (xa + 1) 103 noAbs := by rw [← s1, hw2]; exact Blk_new w1 noAbs 103
  have HLD := Lib.hid (ld_tree z1 hl)
  have HT := Lib.hid (And.intro (RO.below b2 h) (And.intro hg hm))
  have HW0 := Lib.hid b2
  have HX := Lib.hid z2
  have HXA := Lib.hid hxa
  clear hv
  go_enter Tryd.func49, Tryd.ntmps49
  go_upto_region 1 with fail
  change Code.wp _ _ _ _ ((w.alloc (.cells cs.toArray 26)).alloc (.cells noAbs.toArray 103))
  rw [← hw1, ← hw2, ← hxa]
  clear hw1 hw2 s1 b1 b2 z1 z2 h hg hm hl hxa
  go_wp2_with (refine wpList_load rfl (.tmp 2) rfl ⟨xa, 0, none⟩ (.agg cs.toArray) rfl HLD.out ?_)
  refine (rget_any t key cs w2 HT.out.1 HT.out.2.1 HT.out.2.2).mono ?_
  rintro e w3 ⟨rfl, hb⟩
  rw [HV.out]
  unfold getVal
  have HW0 := Lib.hid (below_then HW0.out HW0.out.size hb)
  have HX := Lib.hid (HX.out.below hb)
  clear hb
  go_wp2_with (refine wpList_store_blk rfl 103 (.tmp 4) _ rfl (xa + 1) noAbs rfl rfl 103 _ HX.out (by kernel_rfl) rfl noAbs_one ?_; intro w9 hz hg)
  refine bodyPost_ret (results_blk2 rfl _ _ (xa + 1) 103 noAbs _ rfl hz Tryd.underlying103 rfl (by kernel_rfl)) rfl ⟨rfl, ?_⟩
  exact HW0.out.grown hg HW0.out.size (fun q e => by injection e with e; have := HXA.out; omega)
set_option maxRecDepth 100000 in
set_option maxHeartbeats 8000000 in
theorem rnone_yy (t : Av) (key : Str) (i : Nat) (cs : List Value) (w : World) (h : RC w t cs) (hg : Isth.Good (some t)) (hv : t.get key = none) (hf : t.find key = i) (hm : t.many ≤ 900000) (hs : SmallP t.pairs) (hlr : 0 < i ∧ i < t.many) :
    Calls Tryd.prog 49 #[.agg cs.toArray, S8 key] w fun e w' => ∃ vl vr, e = .returned (.tuple #[.agg #[vl, vr], .int .i64 0]) ∧ ListP w' vl (leftP t i) ∧ ListP w' vr (rightP t i) ∧ Below w.heap.size w w' := by
  have hl := h.len
  obtain ⟨n, hn⟩ : ∃ n, t.many = n := ⟨_, rfl⟩
  have HI := Lib.hid (And.intro hv (And.intro hf hn))
  have HLR := Lib.hid hlr
  have hl0 : (0 : Int) < (i : Int) := by have := hlr.1; omega
  have HSB := Lib.hid (show IntKind.i64.wrap ((i : Int) - 1) = ((i - 1 : Nat) : Int) by have := hlr; have := find_le t key; rw [hf] at this; rw [IntWalk.i64_in _ ⟨by omega, by omega⟩]; omega)
  have HIN := Lib.hid (show i - 1 < t.many by have := hlr; have := find_le t key; rw [hf] at this; omega)
  have HIN2 := Lib.hid (show i < t.many from hlr.2)
  have hr0 : (i : Int) < (n : Int) := by have := hlr.2; omega
  obtain ⟨xa, hxa⟩ : ∃ n, n = w.heap.size := ⟨_, rfl⟩
  obtain ⟨w1, hw1⟩ : ∃ w1, w1 = w.alloc (.cells cs.toArray 26) := ⟨_, rfl⟩
  obtain ⟨w2, hw2⟩ : ∃ w2, w2 = w1.alloc (.cells noAbs.toArray 103) := ⟨_, rfl⟩
  have s1 : w1.heap.size = xa + 1 := by rw [hw1, World.size_alloc, hxa]
  have s2 : w2.heap.size = xa + 1 + 1 := by rw [hw2, World.size_alloc, s1]
  have b1 : Below w.heap.size w w1 := by rw [hw1]; exact (Below.refl _ _).alloc (Nat.le_refl _) _
  have b2 : Below w.heap.size w w2 := by rw [hw2]; exact b1.alloc b1.size _
  have z1 : Blk w2 xa 26 cs := by rw [hw2, hw1, hxa]; exact (Blk_new w cs 26).alloc _
  have z2 : Blk w2 (xa + 1) 103 noAbs := by rw [← s1, hw2]; exact Blk_new w1 noAbs 103
  have HLEN := Lib.hid hl
  have HLD := Lib.hid (ld_tree z1 hl)
  have HT := Lib.hid (And.intro (RC.below b2 h) (And.intro hg (And.intro hm hs)))
  have HW0 := Lib.hid b2
  have HZ1 := Lib.hid z1
  have HX4 := Lib.hid z2
  have HXA := Lib.hid (And.intro hxa s2)
  have ics : (Tryd.prog.info? 26).map (·.size) = some cs.length := by rw [hl]; kernel_rfl
  have uT := Tryd.underlying26
  clear hv hf hlr
  go_enter Tryd.func49, Tryd.ntmps49
  go_upto_region 1 with fail
  change Code.wp _ _ _ _ ((w.alloc (.cells cs.toArray 26)).alloc (.cells noAbs.toArray 103))
  rw [← hw1, ← hw2, ← hxa]
  clear hw1 hw2 s1 s2 b1 b2 z1 z2 h hg hm hs hl hxa hn
  go_wp2_with (refine wpList_load rfl (.tmp 2) rfl ⟨xa, 0, none⟩ (.agg cs.toArray) rfl HLD.out ?_)
  refine (rget_any (some t) key cs w2 HT.out.1 HT.out.2.1 HT.out.2.2.1).mono ?_
  rintro e w3 ⟨rfl, hb⟩
  rw [show getO key (some t) = none from HI.out.1]
  unfold getVal
  have HT := Lib.hid (And.intro (RC.below hb HT.out.1) HT.out.2)
  have HW0 := Lib.hid (below_then HW0.out HW0.out.size hb)
  have HZ1 := Lib.hid (HZ1.out.below hb)
  have HX4 := Lib.hid (HX4.out.below hb)
  have HS3 := Lib.hid (show xa + 1 < w3.heap.size by have := hb.size; have := HXA.out.2; omega)
  clear hb
  go_upto_region 5 with fail
  obtain ⟨w4, hw4⟩ : ∃ w4, w4 = w3.alloc (.cells #[.slice none 0 0, .slice none 0 0] 103) := ⟨_, rfl⟩
  obtain ⟨x8, hx8⟩ : ∃ n, n = w3.heap.size := ⟨_, rfl⟩
  have b4 : Below w3.heap.size w3 w4 := by rw [hw4]; exact (Below.refl _ _).alloc (Nat.le_refl _) _
  have z8 : Blk w4 x8 103 [.slice none 0 0, .slice none 0 0] := by rw [hw4, hx8]; exact Blk_new w3 [.slice none 0 0, .slice none 0 0] 103
  have s4 : w4.heap.size = x8 + 1 := by rw [hw4, World.size_alloc, hx8]
  rw [← hw4, ← hx8]
  have HX8 := Lib.hid z8
  have HXX := Lib.hid (And.intro HXA.out.1 (And.intro (show xa + 1 < x8 by rw [hx8]; exact HS3.out) (show x8 + 1 ≤ w4.heap.size by omega)))
  have HT := Lib.hid (And.intro (RC.below b4 HT.out.1) HT.out.2)
  have HW0 := Lib.hid (below_then HW0.out HW0.out.size b4)
  have HZ1 := Lib.hid (HZ1.out.below b4)
  have HX4 := Lib.hid (HX4.out.below b4)
  have HLD := Lib.hid (ld_tree HZ1.out HLEN.out)
  clear hw4 hx8 b4 z8 s4 HS3
  go_wp2_with (refine wpList_load rfl (.tmp 2) rfl ⟨xa, 0, none⟩ (.agg cs.toArray) rfl HLD.out ?_)
  refine (rfind_any (some t) key cs w4 HT.out.1 HT.out.2.1 HT.out.2.2.1).mono ?_
  rintro e w5 ⟨rfl, hb⟩
  rw [show findO key (some t) = i from HI.out.2.1]
  have HT := Lib.hid (And.intro (RC.below hb HT.out.1) HT.out.2)
  have HW0 := Lib.hid (below_then HW0.out HW0.out.size hb)
  have HZ1 := Lib.hid (HZ1.out.below hb)
  have HX4 := Lib.hid (HX4.out.below hb)
  have HX8 := Lib.hid (HX8.out.below hb)
  have HXX := Lib.hid (And.intro HXX.out.1 (And.intro HXX.out.2.1 (Nat.le_trans HXX.out.2.2 hb.size)))
  have HLD := Lib.hid (ld_tree HZ1.out HLEN.out)
  clear hb
  have HL := Lib.hid (ListQ.nil (x8 + 1) w5)
  go_wp2_with fail
  rename_i hcnd
  clear hcnd
  have HTS : Hid (∀ w', Off w5 x8 w' → w'.rangeAt xa 0 cs) := Lib.hid fun w' h => range_off (blk_range HZ1.out) h (by have := HXX.out.2.1; omega)
  have HX80 := Lib.hid HX8.out
  clear hl0
  go_cut [9] from 24 (fun v9 wr => v9 = .int .i64 (i : Nat) ∧ ∃ vl, Blk wr x8 103 [vl, .slice none 0 0] ∧ ListQ (x8 + 1) wr vl [madeP t (i - 1)] ∧ Blk wr (xa + 1) 103 noAbs ∧ RC wr t cs ∧ Blk wr xa 26 cs ∧ Below w.heap.size w wr)
  case first =>
    have HB : Hid (Below w5.heap.size w5 (w5.drewN 1)) := Lib.hid (refl_drewN w5 1)
    have HX8 := Lib.hid (HX8.out.below HB.out)
    have HX4 := Lib.hid (HX4.out.below HB.out)
    have HL := Lib.hid (HL.out.below HB.out)
    refine wp_region_held_drew (S := (fun w' => w'.rangeAt xa 0 cs)) (by kernel_rfl) ?nl_s0 (fun hHeld => ?_)
    case nl_s0 => exact HTS.out _ (off_below HB.out)
    refine held_take (i := 0) (v := ?nl_1v) rfl (by kernel_rfl) (by kernel_rfl) (by kernel_rfl) (fun _ _ _ h => h) (by rfl) ?nl_1y hHeld ?_
    case nl_1y => ((intro w _hSw; (try dsimp only at _hSw); go_simp); try (with_reducible rfl))
    try simp only [Act.put, List.setIfInBounds_toArray, List.set_cons_zero, List.set_cons_succ]
    refine held_row (i := 2) rfl (by kernel_rfl) (by kernel_rfl) (by kernel_rfl) _ _ rfl _ _ rfl ?nl_2C ?nl_2D (fun _ _ _ h => h) (by rfl) ?nl_2a ?nl_2b ?nl_2c ?nl_2d hHeld ?_
    case nl_2a => (intro w hSw; (try dsimp only at hSw); go_split_ands; assumption)
    case nl_2b => assumption
    case nl_2c => rfl
    case nl_2d => first | assumption | (simp only [*]; done)
    try simp only [Act.put, List.setIfInBounds_toArray, List.set_cons_zero, List.set_cons_succ]
    refine held_take (i := 3) (v := ?nl_3v) rfl (by kernel_rfl) (by kernel_rfl) (by kernel_rfl) (fun _ _ _ h => h) (by rfl) ?nl_3y hHeld ?_
    case nl_3y => ((intro w _hSw; (try dsimp only at _hSw); go_simp); try (with_reducible rfl))
    try simp only [Act.put, List.setIfInBounds_toArray, List.set_cons_zero, List.set_cons_succ]
    refine held_take (i := 4) (v := (.int .i64 ((i - 1 : Nat) : Int))) rfl (by kernel_rfl) (by kernel_rfl) (by kernel_rfl) (fun _ _ _ h => h) (by rfl) ?nl_4y hHeld ?_
    case nl_4y => (intro w _hSw; (try dsimp only at _hSw); go_simp; try rw [HSB.out])
    try simp only [Act.put, List.setIfInBounds_toArray, List.set_cons_zero, List.set_cons_succ]
    refine held_two (i := 1) (j := 5) rfl rfl (by kernel_rfl) (by rfl) (by rfl) (fun K hK => ?_) (fun K hK => ?_)
    · skip
      have c8 := HX8.out.cellD 0 _ rfl
      have c8o := HX80.out.cellD 0 _ rfl
      go_simp
      clear c8 c8o
      have hHeld := HTS.out _ (off_below HB.out)
      refine hK.out _ _ (HTS.out _ (off_below HB.out)) ?_
      clear hK K
      (try simp only [Act.put]); (try simp only [List.setIfInBounds_toArray]); (try simp only [List.set_cons_succ]); (try simp only [List.set_cons_zero])
      refine held_step (i := 5) rfl (by kernel_rfl) (by rfl) (fun K hK => ?_)
      go_simp
      refine (rat_any t (i - 1) cs _ (HT.out.1.below HB.out) HIN.out HT.out.2.2.1 HT.out.2.2.2).mono ?_
      rintro e wc ⟨cp, rfl, hp, hb⟩
      have HP := Lib.hid (hp.mono (show x8 + 1 ≤ _ from Nat.le_trans HXX.out.2.2 HB.out.size))
      have HX8 := Lib.hid (HX8.out.below hb)
      have HX4 := Lib.hid (HX4.out.below hb)
      have HL := Lib.hid (HL.out.below hb)
      have HB := Lib.hid (below_then HB.out HB.out.size hb)
      clear hp hb
      go_wp2_with fail
      have hHeld := HTS.out _ (off_below HB.out)
      refine hK.out _ _ (HTS.out _ (off_below HB.out)) ?_
      clear hK K
      try simp only [Act.put, List.setIfInBounds_toArray, List.set_cons_zero, List.set_cons_succ]
      refine held_step (i := 6) rfl (by kernel_rfl) (by rfl) (fun K hK => ?_)
      refine wp_row1 tPr8 (.tmp 29) rfl cp rfl HP.out.len (by decide) ?_
      have hal := alloc_of HB.out (.cells cp.toArray 98)
      have hr1 := blk_new_at HB.out cp 98
      obtain ⟨wn, hwn⟩ := alloc_named HB.out (.cells cp.toArray 98)
      rw [← hwn] at hal hr1 ⊢
      have HR1 := Lib.hid hr1
      have HP := Lib.hid (HP.out.below hal)
      have HX8 := Lib.hid (HX8.out.below hal)
      have HX4 := Lib.hid (HX4.out.below hal)
      have HL := Lib.hid (HL.out.below hal)
      have HB := Lib.hid (below_then HB.out HB.out.size hal)
      clear hal hr1 hwn
      have hHeld := HTS.out _ (off_below HB.out)
      refine hK.out _ _ (HTS.out _ (off_below HB.out)) ?_
      clear hK K
      (try simp only [Act.put]); (try simp only [List.setIfInBounds_toArray]); (try simp only [List.set_cons_succ]); (try simp only [List.set_cons_zero])
      refine held_step (i := 7) rfl (by kernel_rfl) (by rfl) (fun K hK => ?_)
      refine wp_app0 tPr8 (.tmp 25) (.tmp 30) rfl (x8 + 1) _ 0 [] rfl (World.ownsRow_nil _ _ _ _) _ 1 1 cp rfl HR1.out.rd0 HP.out.len HP.out.one (by decide) (by decide) (Nat.le_trans HXX.out.2.2 HB.out.size) ?_
      intro v6 wc ho6 hx6
      have hbx := hx6.below (Nat.le_refl _) (fun k e => by cases e)
      obtain ⟨A6, c6, rfl, hc6, hrd6, _, hbl6⟩ := own_slice ho6
      have HRW := Lib.hid (And.intro hc6 (And.intro hrd6 (show ∀ ad, A6 = some ad → x8 + 1 ≤ ad.block from fun ad e => (hbl6 ad e).1)))
      have HP := Lib.hid (HP.out.below hbx)
      have HX8 := Lib.hid (HX8.out.below hbx)
      have HX4 := Lib.hid (HX4.out.below hbx)
      have HL := Lib.hid (HL.out.below hbx)
      have HB := Lib.hid (below_then HB.out HB.out.size hbx)
      clear ho6 hx6 hbx hc6 hrd6 hbl6
      have hHeld := HTS.out _ (off_below HB.out)
      refine hK.out _ _ (HTS.out _ (off_below HB.out)) ?_
      clear hK K
      (try simp only [Act.put]); (try simp only [List.setIfInBounds_toArray]); (try simp only [List.set_cons_succ]); (try simp only [List.set_cons_zero])
      refine held_take (i := 8) (v := ?nl_5v) rfl (by kernel_rfl) (by kernel_rfl) (by kernel_rfl) (fun _ _ _ h => h) (by rfl) ?nl_5y hHeld ?_
      case nl_5y => ((intro w _hSw; (try dsimp only at _hSw); go_simp); try (with_reducible rfl))
      try simp only [Act.put, List.setIfInBounds_toArray, List.set_cons_zero, List.set_cons_succ]
      refine held_step (i := 9) rfl (by kernel_rfl) (by rfl) (fun K hK => ?_)
      have c8 := HX8.out.cellD 0 _ rfl
      have f8 := HX8.out.frozen 0
      go_simp
      clear c8 f8
      obtain ⟨vv, hvv⟩ : ∃ v, v = Value.slice A6 1 c6 := ⟨_, rfl⟩
      rw [← hvv]
      have hgr := setc_of HB.out x8 0 vv
      have HNL := Lib.hid (show ListQ (x8 + 1) _ vv [madeP t (i - 1)] by rw [hvv]; exact listP_row HRW.out.1 HRW.out.2.1 HRW.out.2.2 HP.out hgr (Nat.lt_succ_self _))
      have HO9 := Lib.hid (off_store HB.out hgr)
      have HF9 := Lib.hid (And.intro (HX8.out.set 0 vv) (And.intro (HX4.out.grown hgr (by intro e; injection e with e; have := HXX.out.2.1; omega)) (And.intro (HL.out.store hgr (Nat.lt_succ_self _)) ((below_then HW0.out HW0.out.size HB.out).grown hgr (below_then HW0.out HW0.out.size HB.out).size (fun q e => by injection e with e; have := HXX.out; omega)))))
      have HT9 := Lib.hid (And.intro (RC.storeT (by decide) HX8.out hgr (HT.out.1.below HB.out)) ((HZ1.out.below HB.out).grown hgr (by intro e; injection e with e; have := HXX.out.2.1; omega)))
      clear hgr hvv
      have hHeld := HTS.out _ HO9.out
      refine hK.out _ _ (HTS.out _ HO9.out) ?_
      clear hK K
      (try simp only [Act.put]); (try simp only [List.setIfInBounds_toArray]); (try simp only [List.set_cons_succ]); (try simp only [List.set_cons_zero])
      refine wpAnyH_done (by kernel_rfl) ?_ _
      go_wp2
      go_meet
      case rel => exact ⟨rfl, _, HF9.out.1, HNL.out, HF9.out.2.1, HT9.out.1, HT9.out.2, HF9.out.2.2.2⟩
    · skip
      go_simp
      refine (rat_any t (i - 1) cs _ (HT.out.1.below HB.out) HIN.out HT.out.2.2.1 HT.out.2.2.2).mono ?_
      rintro e wc ⟨cp, rfl, hp, hb⟩
      have HP := Lib.hid (hp.mono (show x8 + 1 ≤ _ from Nat.le_trans HXX.out.2.2 HB.out.size))
      have HX8 := Lib.hid (HX8.out.below hb)
      have HX4 := Lib.hid (HX4.out.below hb)
      have HL := Lib.hid (HL.out.below hb)
      have HB := Lib.hid (below_then HB.out HB.out.size hb)
      clear hp hb
      go_wp2_with fail
      have hHeld := HTS.out _ (off_below HB.out)
      refine hK.out _ _ (HTS.out _ (off_below HB.out)) ?_
      clear hK K
      try simp only [Act.put, List.setIfInBounds_toArray, List.set_cons_zero, List.set_cons_succ]
      refine held_two (i := 1) (j := 6) rfl rfl (by kernel_rfl) (by rfl) (by rfl) (fun K hK => ?_) (fun K hK => ?_)
      · skip
        have c8 := HX8.out.cellD 0 _ rfl
        have c8o := HX80.out.cellD 0 _ rfl
        go_simp
        clear c8 c8o
        have hHeld := HTS.out _ (off_below HB.out)
        refine hK.out _ _ (HTS.out _ (off_below HB.out)) ?_
        clear hK K
        (try simp only [Act.put]); (try simp only [List.setIfInBounds_toArray]); (try simp only [List.set_cons_succ]); (try simp only [List.set_cons_zero])
        refine held_step (i := 6) rfl (by kernel_rfl) (by rfl) (fun K hK => ?_)
        refine wp_row1 tPr8 (.tmp 29) rfl cp rfl HP.out.len (by decide) ?_
        have hal := alloc_of HB.out (.cells cp.toArray 98)
        have hr1 := blk_new_at HB.out cp 98
        obtain ⟨wn, hwn⟩ := alloc_named HB.out (.cells cp.toArray 98)
        rw [← hwn] at hal hr1 ⊢
        have HR1 := Lib.hid hr1
        have HP := Lib.hid (HP.out.below hal)
        have HX8 := Lib.hid (HX8.out.below hal)
        have HX4 := Lib.hid (HX4.out.below hal)
        have HL := Lib.hid (HL.out.below hal)
        have HB := Lib.hid (below_then HB.out HB.out.size hal)
        clear hal hr1 hwn
        have hHeld := HTS.out _ (off_below HB.out)
        refine hK.out _ _ (HTS.out _ (off_below HB.out)) ?_
        clear hK K
        (try simp only [Act.put]); (try simp only [List.setIfInBounds_toArray]); (try simp only [List.set_cons_succ]); (try simp only [List.set_cons_zero])
        refine held_step (i := 7) rfl (by kernel_rfl) (by rfl) (fun K hK => ?_)
        refine wp_app0 tPr8 (.tmp 25) (.tmp 30) rfl (x8 + 1) _ 0 [] rfl (World.ownsRow_nil _ _ _ _) _ 1 1 cp rfl HR1.out.rd0 HP.out.len HP.out.one (by decide) (by decide) (Nat.le_trans HXX.out.2.2 HB.out.size) ?_
        intro v6 wc ho6 hx6
        have hbx := hx6.below (Nat.le_refl _) (fun k e => by cases e)
        obtain ⟨A6, c6, rfl, hc6, hrd6, _, hbl6⟩ := own_slice ho6
        have HRW := Lib.hid (And.intro hc6 (And.intro hrd6 (show ∀ ad, A6 = some ad → x8 + 1 ≤ ad.block from fun ad e => (hbl6 ad e).1)))
        have HP := Lib.hid (HP.out.below hbx)
        have HX8 := Lib.hid (HX8.out.below hbx)
        have HX4 := Lib.hid (HX4.out.below hbx)
        have HL := Lib.hid (HL.out.below hbx)
        have HB := Lib.hid (below_then HB.out HB.out.size hbx)
        clear ho6 hx6 hbx hc6 hrd6 hbl6
        have hHeld := HTS.out _ (off_below HB.out)
        refine hK.out _ _ (HTS.out _ (off_below HB.out)) ?_
        clear hK K
        (try simp only [Act.put]); (try simp only [List.setIfInBounds_toArray]); (try simp only [List.set_cons_succ]); (try simp only [List.set_cons_zero])
        refine held_take (i := 8) (v := ?nl_6v) rfl (by kernel_rfl) (by kernel_rfl) (by kernel_rfl) (fun _ _ _ h => h) (by rfl) ?nl_6y hHeld ?_
        case nl_6y => ((intro w _hSw; (try dsimp only at _hSw); go_simp); try (with_reducible rfl))
        try simp only [Act.put, List.setIfInBounds_toArray, List.set_cons_zero, List.set_cons_succ]
        refine held_step (i := 9) rfl (by kernel_rfl) (by rfl) (fun K hK => ?_)
        have c8 := HX8.out.cellD 0 _ rfl
        have f8 := HX8.out.frozen 0
        go_simp
        clear c8 f8
        obtain ⟨vv, hvv⟩ : ∃ v, v = Value.slice A6 1 c6 := ⟨_, rfl⟩
        rw [← hvv]
        have hgr := setc_of HB.out x8 0 vv
        have HNL := Lib.hid (show ListQ (x8 + 1) _ vv [madeP t (i - 1)] by rw [hvv]; exact listP_row HRW.out.1 HRW.out.2.1 HRW.out.2.2 HP.out hgr (Nat.lt_succ_self _))
        have HO9 := Lib.hid (off_store HB.out hgr)
        have HF9 := Lib.hid (And.intro (HX8.out.set 0 vv) (And.intro (HX4.out.grown hgr (by intro e; injection e with e; have := HXX.out.2.1; omega)) (And.intro (HL.out.store hgr (Nat.lt_succ_self _)) ((below_then HW0.out HW0.out.size HB.out).grown hgr (below_then HW0.out HW0.out.size HB.out).size (fun q e => by injection e with e; have := HXX.out; omega)))))
        have HT9 := Lib.hid (And.intro (RC.storeT (by decide) HX8.out hgr (HT.out.1.below HB.out)) ((HZ1.out.below HB.out).grown hgr (by intro e; injection e with e; have := HXX.out.2.1; omega)))
        clear hgr hvv
        have hHeld := HTS.out _ HO9.out
        refine hK.out _ _ (HTS.out _ HO9.out) ?_
        clear hK K
        (try simp only [Act.put]); (try simp only [List.setIfInBounds_toArray]); (try simp only [List.set_cons_succ]); (try simp only [List.set_cons_zero])
        refine wpAnyH_done (by kernel_rfl) ?_ _
        go_wp2
        go_meet
        case rel => exact ⟨rfl, _, HF9.out.1, HNL.out, HF9.out.2.1, HT9.out.1, HT9.out.2, HF9.out.2.2.2⟩
      · skip
        refine wp_row1 tPr8 (.tmp 29) rfl cp rfl HP.out.len (by decide) ?_
        have hal := alloc_of HB.out (.cells cp.toArray 98)
        have hr1 := blk_new_at HB.out cp 98
        obtain ⟨wn, hwn⟩ := alloc_named HB.out (.cells cp.toArray 98)
        rw [← hwn] at hal hr1 ⊢
        have HR1 := Lib.hid hr1
        have HP := Lib.hid (HP.out.below hal)
        have HX8 := Lib.hid (HX8.out.below hal)
        have HX4 := Lib.hid (HX4.out.below hal)
        have HL := Lib.hid (HL.out.below hal)
        have HB := Lib.hid (below_then HB.out HB.out.size hal)
        clear hal hr1 hwn
        have hHeld := HTS.out _ (off_below HB.out)
        refine hK.out _ _ (HTS.out _ (off_below HB.out)) ?_
        clear hK K
        (try simp only [Act.put]); (try simp only [List.setIfInBounds_toArray]); (try simp only [List.set_cons_succ]); (try simp only [List.set_cons_zero])
        refine held_step (i := 1) rfl (by kernel_rfl) (by rfl) (fun K hK => ?_)
        have c8 := HX8.out.cellD 0 _ rfl
        have c8o := HX80.out.cellD 0 _ rfl
        go_simp
        clear c8 c8o
        have hHeld := HTS.out _ (off_below HB.out)
        refine hK.out _ _ (HTS.out _ (off_below HB.out)) ?_
        clear hK K
        (try simp only [Act.put]); (try simp only [List.setIfInBounds_toArray]); (try simp only [List.set_cons_succ]); (try simp only [List.set_cons_zero])
        refine held_step (i := 7) rfl (by kernel_rfl) (by rfl) (fun K hK => ?_)
        refine wp_app0 tPr8 (.tmp 25) (.tmp 30) rfl (x8 + 1) _ 0 [] rfl (World.ownsRow_nil _ _ _ _) _ 1 1 cp rfl HR1.out.rd0 HP.out.len HP.out.one (by decide) (by decide) (Nat.le_trans HXX.out.2.2 HB.out.size) ?_
        intro v6 wc ho6 hx6
        have hbx := hx6.below (Nat.le_refl _) (fun k e => by cases e)
        obtain ⟨A6, c6, rfl, hc6, hrd6, _, hbl6⟩ := own_slice ho6
        have HRW := Lib.hid (And.intro hc6 (And.intro hrd6 (show ∀ ad, A6 = some ad → x8 + 1 ≤ ad.block from fun ad e => (hbl6 ad e).1)))
        have HP := Lib.hid (HP.out.below hbx)
        have HX8 := Lib.hid (HX8.out.below hbx)
        have HX4 := Lib.hid (HX4.out.below hbx)
        have HL := Lib.hid (HL.out.below hbx)
        have HB := Lib.hid (below_then HB.out HB.out.size hbx)
        clear ho6 hx6 hbx hc6 hrd6 hbl6
        have hHeld := HTS.out _ (off_below HB.out)
        refine hK.out _ _ (HTS.out _ (off_below HB.out)) ?_
        clear hK K
        (try simp only [Act.put]); (try simp only [List.setIfInBounds_toArray]); (try simp only [List.set_cons_succ]); (try simp only [List.set_cons_zero])
        refine held_take (i := 8) (v := ?nl_7v) rfl (by kernel_rfl) (by kernel_rfl) (by kernel_rfl) (fun _ _ _ h => h) (by rfl) ?nl_7y hHeld ?_
        case nl_7y => ((intro w _hSw; (try dsimp only at _hSw); go_simp); try (with_reducible rfl))
        try simp only [Act.put, List.setIfInBounds_toArray, List.set_cons_zero, List.set_cons_succ]
        refine held_step (i := 9) rfl (by kernel_rfl) (by rfl) (fun K hK => ?_)
        have c8 := HX8.out.cellD 0 _ rfl
        have f8 := HX8.out.frozen 0
        go_simp
        clear c8 f8
        obtain ⟨vv, hvv⟩ : ∃ v, v = Value.slice A6 1 c6 := ⟨_, rfl⟩
        rw [← hvv]
        have hgr := setc_of HB.out x8 0 vv
        have HNL := Lib.hid (show ListQ (x8 + 1) _ vv [madeP t (i - 1)] by rw [hvv]; exact listP_row HRW.out.1 HRW.out.2.1 HRW.out.2.2 HP.out hgr (Nat.lt_succ_self _))
        have HO9 := Lib.hid (off_store HB.out hgr)
        have HF9 := Lib.hid (And.intro (HX8.out.set 0 vv) (And.intro (HX4.out.grown hgr (by intro e; injection e with e; have := HXX.out.2.1; omega)) (And.intro (HL.out.store hgr (Nat.lt_succ_self _)) ((below_then HW0.out HW0.out.size HB.out).grown hgr (below_then HW0.out HW0.out.size HB.out).size (fun q e => by injection e with e; have := HXX.out; omega)))))
        have HT9 := Lib.hid (And.intro (RC.storeT (by decide) HX8.out hgr (HT.out.1.below HB.out)) ((HZ1.out.below HB.out).grown hgr (by intro e; injection e with e; have := HXX.out.2.1; omega)))
        clear hgr hvv
        have hHeld := HTS.out _ HO9.out
        refine hK.out _ _ (HTS.out _ HO9.out) ?_
        clear hK K
        (try simp only [Act.put]); (try simp only [List.setIfInBounds_toArray]); (try simp only [List.set_cons_succ]); (try simp only [List.set_cons_zero])
        refine wpAnyH_done (by kernel_rfl) ?_ _
        go_wp2
        go_meet
        case rel => exact ⟨rfl, _, HF9.out.1, HNL.out, HF9.out.2.1, HT9.out.1, HT9.out.2, HF9.out.2.2.2⟩
  case rest =>
    obtain ⟨rfl, vl, h8, hL, h4, hT, hz, hW⟩ := hcut
    have HX8 := Lib.hid h8
    have HL := Lib.hid hL
    have HX4 := Lib.hid h4
    have HT := Lib.hid (And.intro hT HT.out.2)
    have HZ1 := Lib.hid hz
    have HW0 := Lib.hid hW
    have HXX := Lib.hid (And.intro HXX.out.1 (And.intro HXX.out.2.1 (show x8 + 1 ≤ wc.heap.size from h8.lt)))
    have HLD := Lib.hid (ld_tree HZ1.out HLEN.out)
    clear h8 hL h4 hT hz hW
    go_wp2_with (refine wpList_load rfl (.tmp 2) rfl ⟨xa, 0, none⟩ (.agg cs.toArray) rfl HLD.out ?_)
    refine (rlen_to t cs wc HT.out.1 n HI.out.2.2 HT.out.2.2.1).mono ?_
    rintro e w6 ⟨Ar, cr, rfl, hb⟩
    have HT := Lib.hid (And.intro (RC.below hb HT.out.1) HT.out.2)
    have HW0 := Lib.hid (below_then HW0.out HW0.out.size hb)
    have HZ1 := Lib.hid (HZ1.out.below hb)
    have HX4 := Lib.hid (HX4.out.below hb)
    have HX8 := Lib.hid (HX8.out.below hb)
    have HXX := Lib.hid (And.intro HXX.out.1 (And.intro HXX.out.2.1 (Nat.le_trans HXX.out.2.2 hb.size)))
    have HLD := Lib.hid (ld_tree HZ1.out HLEN.out)
    have HL := Lib.hid (HL.out.below hb)
    clear hb
    go_wp2_with fail
    have HTS : Hid (∀ w', Off w6 x8 w' → w'.rangeAt xa 0 cs) := Lib.hid fun w' h => range_off (blk_range HZ1.out) h (by have := HXX.out.2.1; omega)
    have HX80 := Lib.hid HX8.out
    clear hr0
    go_cut [9] from 38 (fun v9 wr => v9 = .int .i64 (i : Nat) ∧ ∃ vr, Blk wr x8 103 [vl, vr] ∧ ListQ (x8 + 1) wr vr [madeP t i] ∧ ListQ (x8 + 1) wr (vl) [madeP t (i - 1)] ∧ Blk wr (xa + 1) 103 noAbs ∧ Below w.heap.size w wr)
    case first =>
      have HB : Hid (Below w6.heap.size w6 (w6.drewN 1)) := Lib.hid (refl_drewN w6 1)
      have HX8 := Lib.hid (HX8.out.below HB.out)
      have HX4 := Lib.hid (HX4.out.below HB.out)
      have HL := Lib.hid (HL.out.below HB.out)
      refine wp_region_held_drew (S := (fun w' => w'.rangeAt xa 0 cs)) (by kernel_rfl) ?nr1_s0 (fun hHeld => ?_)
      case nr1_s0 => exact HTS.out _ (off_below HB.out)
      refine held_take (i := 0) (v := ?nr1_1v) rfl (by kernel_rfl) (by kernel_rfl) (by kernel_rfl) (fun _ _ _ h => h) (by rfl) ?nr1_1y hHeld ?_
      case nr1_1y => ((intro w _hSw; (try dsimp only at _hSw); go_simp); try (with_reducible rfl))
      try simp only [Act.put, List.setIfInBounds_toArray, List.set_cons_zero, List.set_cons_succ]
      refine held_row (i := 2) rfl (by kernel_rfl) (by kernel_rfl) (by kernel_rfl) _ _ rfl _ _ rfl ?nr1_2C ?nr1_2D (fun _ _ _ h => h) (by rfl) ?nr1_2a ?nr1_2b ?nr1_2c ?nr1_2d hHeld ?_
      case nr1_2a => (intro w hSw; (try dsimp only at hSw); go_split_ands; assumption)
      case nr1_2b => assumption
      case nr1_2c => rfl
      case nr1_2d => first | assumption | (simp only [*]; done)
      try simp only [Act.put, List.setIfInBounds_toArray, List.set_cons_zero, List.set_cons_succ]
      refine held_take (i := 3) (v := ?nr1_3v) rfl (by kernel_rfl) (by kernel_rfl) (by kernel_rfl) (fun _ _ _ h => h) (by rfl) ?nr1_3y hHeld ?_
      case nr1_3y => ((intro w _hSw; (try dsimp only at _hSw); go_simp); try (with_reducible rfl))
      try simp only [Act.put, List.setIfInBounds_toArray, List.set_cons_zero, List.set_cons_succ]
      refine held_two (i := 1) (j := 4) rfl rfl (by kernel_rfl) (by rfl) (by rfl) (fun K hK => ?_) (fun K hK => ?_)
      · skip
        have c8 := HX8.out.cellD 1 _ rfl
        have c8o := HX80.out.cellD 1 _ rfl
        go_simp
        clear c8 c8o
        have hHeld := HTS.out _ (off_below HB.out)
        refine hK.out _ _ (HTS.out _ (off_below HB.out)) ?_
        clear hK K
        (try simp only [Act.put]); (try simp only [List.setIfInBounds_toArray]); (try simp only [List.set_cons_succ]); (try simp only [List.set_cons_zero])
        refine held_step (i := 4) rfl (by kernel_rfl) (by rfl) (fun K hK => ?_)
        go_simp
        refine (rat_any t i cs _ (HT.out.1.below HB.out) HIN2.out HT.out.2.2.1 HT.out.2.2.2).mono ?_
        rintro e wc ⟨cp, rfl, hp, hb⟩
        have HP := Lib.hid (hp.mono (show x8 + 1 ≤ _ from Nat.le_trans HXX.out.2.2 HB.out.size))
        have HX8 := Lib.hid (HX8.out.below hb)
        have HX4 := Lib.hid (HX4.out.below hb)
        have HL := Lib.hid (HL.out.below hb)
        have HB := Lib.hid (below_then HB.out HB.out.size hb)
        clear hp hb
        go_wp2_with fail
        have hHeld := HTS.out _ (off_below HB.out)
        refine hK.out _ _ (HTS.out _ (off_below HB.out)) ?_
        clear hK K
        try simp only [Act.put, List.setIfInBounds_toArray, List.set_cons_zero, List.set_cons_succ]
        refine held_step (i := 5) rfl (by kernel_rfl) (by rfl) (fun K hK => ?_)
        refine wp_row1 tPr8 (.tmp 42) rfl cp rfl HP.out.len (by decide) ?_
        have hal := alloc_of HB.out (.cells cp.toArray 98)
        have hr1 := blk_new_at HB.out cp 98
        obtain ⟨wn, hwn⟩ := alloc_named HB.out (.cells cp.toArray 98)
        rw [← hwn] at hal hr1 ⊢
        have HR1 := Lib.hid hr1
        have HP := Lib.hid (HP.out.below hal)
        have HX8 := Lib.hid (HX8.out.below hal)
        have HX4 := Lib.hid (HX4.out.below hal)
        have HL := Lib.hid (HL.out.below hal)
        have HB := Lib.hid (below_then HB.out HB.out.size hal)
        clear hal hr1 hwn
        have hHeld := HTS.out _ (off_below HB.out)
        refine hK.out _ _ (HTS.out _ (off_below HB.out)) ?_
        clear hK K
        (try simp only [Act.put]); (try simp only [List.setIfInBounds_toArray]); (try simp only [List.set_cons_succ]); (try simp only [List.set_cons_zero])
        refine held_step (i := 6) rfl (by kernel_rfl) (by rfl) (fun K hK => ?_)
        refine wp_app0 tPr8 (.tmp 39) (.tmp 43) rfl (x8 + 1) _ 0 [] rfl (World.ownsRow_nil _ _ _ _) _ 1 1 cp rfl HR1.out.rd0 HP.out.len HP.out.one (by decide) (by decide) (Nat.le_trans HXX.out.2.2 HB.out.size) ?_
        intro v6 wc ho6 hx6
        have hbx := hx6.below (Nat.le_refl _) (fun k e => by cases e)
        obtain ⟨A6, c6, rfl, hc6, hrd6, _, hbl6⟩ := own_slice ho6
        have HRW := Lib.hid (And.intro hc6 (And.intro hrd6 (show ∀ ad, A6 = some ad → x8 + 1 ≤ ad.block from fun ad e => (hbl6 ad e).1)))
        have HP := Lib.hid (HP.out.below hbx)
        have HX8 := Lib.hid (HX8.out.below hbx)
        have HX4 := Lib.hid (HX4.out.below hbx)
        have HL := Lib.hid (HL.out.below hbx)
        have HB := Lib.hid (below_then HB.out HB.out.size hbx)
        clear ho6 hx6 hbx hc6 hrd6 hbl6
        have hHeld := HTS.out _ (off_below HB.out)
        refine hK.out _ _ (HTS.out _ (off_below HB.out)) ?_
        clear hK K
        (try simp only [Act.put]); (try simp only [List.setIfInBounds_toArray]); (try simp only [List.set_cons_succ]); (try simp only [List.set_cons_zero])
        refine held_take (i := 7) (v := ?nr1_4v) rfl (by kernel_rfl) (by kernel_rfl) (by kernel_rfl) (fun _ _ _ h => h) (by rfl) ?nr1_4y hHeld ?_
        case nr1_4y => ((intro w _hSw; (try dsimp only at _hSw); go_simp); try (with_reducible rfl))
        try simp only [Act.put, List.setIfInBounds_toArray, List.set_cons_zero, List.set_cons_succ]
        refine held_step (i := 8) rfl (by kernel_rfl) (by rfl) (fun K hK => ?_)
        have c8 := HX8.out.cellD 1 _ rfl
        have f8 := HX8.out.frozen 1
        go_simp
        clear c8 f8
        obtain ⟨vv, hvv⟩ : ∃ v, v = Value.slice A6 1 c6 := ⟨_, rfl⟩
        rw [← hvv]
        have hgr := setc_of HB.out x8 1 vv
        have HNL := Lib.hid (show ListQ (x8 + 1) _ vv [madeP t i] by rw [hvv]; exact listP_row HRW.out.1 HRW.out.2.1 HRW.out.2.2 HP.out hgr (Nat.lt_succ_self _))
        have HO9 := Lib.hid (off_store HB.out hgr)
        have HF9 := Lib.hid (And.intro (HX8.out.set 1 vv) (And.intro (HX4.out.grown hgr (by intro e; injection e with e; have := HXX.out.2.1; omega)) (And.intro (HL.out.store hgr (Nat.lt_succ_self _)) ((below_then HW0.out HW0.out.size HB.out).grown hgr (below_then HW0.out HW0.out.size HB.out).size (fun q e => by injection e with e; have := HXX.out; omega)))))
        have HT9 := Lib.hid (And.intro (RC.storeT (by decide) HX8.out hgr (HT.out.1.below HB.out)) ((HZ1.out.below HB.out).grown hgr (by intro e; injection e with e; have := HXX.out.2.1; omega)))
        clear hgr hvv
        have hHeld := HTS.out _ HO9.out
        refine hK.out _ _ (HTS.out _ HO9.out) ?_
        clear hK K
        (try simp only [Act.put]); (try simp only [List.setIfInBounds_toArray]); (try simp only [List.set_cons_succ]); (try simp only [List.set_cons_zero])
        refine wpAnyH_done (by kernel_rfl) ?_ _
        go_wp2
        go_meet
        case rel => exact ⟨rfl, _, HF9.out.1, HNL.out, HF9.out.2.2.1, HF9.out.2.1, HF9.out.2.2.2⟩
      · skip
        go_simp
        refine (rat_any t i cs _ (HT.out.1.below HB.out) HIN2.out HT.out.2.2.1 HT.out.2.2.2).mono ?_
        rintro e wc ⟨cp, rfl, hp, hb⟩
        have HP := Lib.hid (hp.mono (show x8 + 1 ≤ _ from Nat.le_trans HXX.out.2.2 HB.out.size))
        have HX8 := Lib.hid (HX8.out.below hb)
        have HX4 := Lib.hid (HX4.out.below hb)
        have HL := Lib.hid (HL.out.below hb)
        have HB := Lib.hid (below_then HB.out HB.out.size hb)
        clear hp hb
        go_wp2_with fail
        have hHeld := HTS.out _ (off_below HB.out)
        refine hK.out _ _ (HTS.out _ (off_below HB.out)) ?_
        clear hK K
        try simp only [Act.put, List.setIfInBounds_toArray, List.set_cons_zero, List.set_cons_succ]
        refine held_two (i := 1) (j := 5) rfl rfl (by kernel_rfl) (by rfl) (by rfl) (fun K hK => ?_) (fun K hK => ?_)
        · skip
          have c8 := HX8.out.cellD 1 _ rfl
          have c8o := HX80.out.cellD 1 _ rfl
          go_simp
          clear c8 c8o
          have hHeld := HTS.out _ (off_below HB.out)
          refine hK.out _ _ (HTS.out _ (off_below HB.out)) ?_
          clear hK K
          (try simp only [Act.put]); (try simp only [List.setIfInBounds_toArray]); (try simp only [List.set_cons_succ]); (try simp only [List.set_cons_zero])
          refine held_step (i := 5) rfl (by kernel_rfl) (by rfl) (fun K hK => ?_)
          refine wp_row1 tPr8 (.tmp 42) rfl cp rfl HP.out.len (by decide) ?_
          have hal := alloc_of HB.out (.cells cp.toArray 98)
          have hr1 := blk_new_at HB.out cp 98
          obtain ⟨wn, hwn⟩ := alloc_named HB.out (.cells cp.toArray 98)
          rw [← hwn] at hal hr1 ⊢
          have HR1 := Lib.hid hr1
          have HP := Lib.hid (HP.out.below hal)
          have HX8 := Lib.hid (HX8.out.below hal)
          have HX4 := Lib.hid (HX4.out.below hal)
          have HL := Lib.hid (HL.out.below hal)
          have HB := Lib.hid (below_then HB.out HB.out.size hal)
          clear hal hr1 hwn
          have hHeld := HTS.out _ (off_below HB.out)
          refine hK.out _ _ (HTS.out _ (off_below HB.out)) ?_
          clear hK K
          (try simp only [Act.put]); (try simp only [List.setIfInBounds_toArray]); (try simp only [List.set_cons_succ]); (try simp only [List.set_cons_zero])
          refine held_step (i := 6) rfl (by kernel_rfl) (by rfl) (fun K hK => ?_)
          refine wp_app0 tPr8 (.tmp 39) (.tmp 43) rfl (x8 + 1) _ 0 [] rfl (World.ownsRow_nil _ _ _ _) _ 1 1 cp rfl HR1.out.rd0 HP.out.len HP.out.one (by decide) (by decide) (Nat.le_trans HXX.out.2.2 HB.out.size) ?_
          intro v6 wc ho6 hx6
          have hbx := hx6.below (Nat.le_refl _) (fun k e => by cases e)
          obtain ⟨A6, c6, rfl, hc6, hrd6, _, hbl6⟩ := own_slice ho6
          have HRW := Lib.hid (And.intro hc6 (And.intro hrd6 (show ∀ ad, A6 = some ad → x8 + 1 ≤ ad.block from fun ad e => (hbl6 ad e).1)))
          have HP := Lib.hid (HP.out.below hbx)
          have HX8 := Lib.hid (HX8.out.below hbx)
          have HX4 := Lib.hid (HX4.out.below hbx)
          have HL := Lib.hid (HL.out.below hbx)
          have HB := Lib.hid (below_then HB.out HB.out.size hbx)
          clear ho6 hx6 hbx hc6 hrd6 hbl6
          have hHeld := HTS.out _ (off_below HB.out)
          refine hK.out _ _ (HTS.out _ (off_below HB.out)) ?_
          clear hK K
          (try simp only [Act.put]); (try simp only [List.setIfInBounds_toArray]); (try simp only [List.set_cons_succ]); (try simp only [List.set_cons_zero])
          refine held_take (i := 7) (v := ?nr1_5v) rfl (by kernel_rfl) (by kernel_rfl) (by kernel_rfl) (fun _ _ _ h => h) (by rfl) ?nr1_5y hHeld ?_
          case nr1_5y => ((intro w _hSw; (try dsimp only at _hSw); go_simp); try (with_reducible rfl))
          try simp only [Act.put, List.setIfInBounds_toArray, List.set_cons_zero, List.set_cons_succ]
          refine held_step (i := 8) rfl (by kernel_rfl) (by rfl) (fun K hK => ?_)
          have c8 := HX8.out.cellD 1 _ rfl
          have f8 := HX8.out.frozen 1
          go_simp
          clear c8 f8
          obtain ⟨vv, hvv⟩ : ∃ v, v = Value.slice A6 1 c6 := ⟨_, rfl⟩
          rw [← hvv]
          have hgr := setc_of HB.out x8 1 vv
          have HNL := Lib.hid (show ListQ (x8 + 1) _ vv [madeP t i] by rw [hvv]; exact listP_row HRW.out.1 HRW.out.2.1 HRW.out.2.2 HP.out hgr (Nat.lt_succ_self _))
          have HO9 := Lib.hid (off_store HB.out hgr)
          have HF9 := Lib.hid (And.intro (HX8.out.set 1 vv) (And.intro (HX4.out.grown hgr (by intro e; injection e with e; have := HXX.out.2.1; omega)) (And.intro (HL.out.store hgr (Nat.lt_succ_self _)) ((below_then HW0.out HW0.out.size HB.out).grown hgr (below_then HW0.out HW0.out.size HB.out).size (fun q e => by injection e with e; have := HXX.out; omega)))))
          have HT9 := Lib.hid (And.intro (RC.storeT (by decide) HX8.out hgr (HT.out.1.below HB.out)) ((HZ1.out.below HB.out).grown hgr (by intro e; injection e with e; have := HXX.out.2.1; omega)))
          clear hgr hvv
          have hHeld := HTS.out _ HO9.out
          refine hK.out _ _ (HTS.out _ HO9.out) ?_
          clear hK K
          (try simp only [Act.put]); (try simp only [List.setIfInBounds_toArray]); (try simp only [List.set_cons_succ]); (try simp only [List.set_cons_zero])
          refine wpAnyH_done (by kernel_rfl) ?_ _
          go_wp2
          go_meet
          case rel => exact ⟨rfl, _, HF9.out.1, HNL.out, HF9.out.2.2.1, HF9.out.2.1, HF9.out.2.2.2⟩
        · skip
          refine wp_row1 tPr8 (.tmp 42) rfl cp rfl HP.out.len (by decide) ?_
          have hal := alloc_of HB.out (.cells cp.toArray 98)
          have hr1 := blk_new_at HB.out cp 98
          obtain ⟨wn, hwn⟩ := alloc_named HB.out (.cells cp.toArray 98)
          rw [← hwn] at hal hr1 ⊢
          have HR1 := Lib.hid hr1
          have HP := Lib.hid (HP.out.below hal)
          have HX8 := Lib.hid (HX8.out.below hal)
          have HX4 := Lib.hid (HX4.out.below hal)
          have HL := Lib.hid (HL.out.below hal)
          have HB := Lib.hid (below_then HB.out HB.out.size hal)
          clear hal hr1 hwn
          have hHeld := HTS.out _ (off_below HB.out)
          refine hK.out _ _ (HTS.out _ (off_below HB.out)) ?_
          clear hK K
          (try simp only [Act.put]); (try simp only [List.setIfInBounds_toArray]); (try simp only [List.set_cons_succ]); (try simp only [List.set_cons_zero])
          refine held_step (i := 1) rfl (by kernel_rfl) (by rfl) (fun K hK => ?_)
          have c8 := HX8.out.cellD 1 _ rfl
          have c8o := HX80.out.cellD 1 _ rfl
          go_simp
          clear c8 c8o
          have hHeld := HTS.out _ (off_below HB.out)
          refine hK.out _ _ (HTS.out _ (off_below HB.out)) ?_
          clear hK K
          (try simp only [Act.put]); (try simp only [List.setIfInBounds_toArray]); (try simp only [List.set_cons_succ]); (try simp only [List.set_cons_zero])
          refine held_step (i := 6) rfl (by kernel_rfl) (by rfl) (fun K hK => ?_)
          refine wp_app0 tPr8 (.tmp 39) (.tmp 43) rfl (x8 + 1) _ 0 [] rfl (World.ownsRow_nil _ _ _ _) _ 1 1 cp rfl HR1.out.rd0 HP.out.len HP.out.one (by decide) (by decide) (Nat.le_trans HXX.out.2.2 HB.out.size) ?_
          intro v6 wc ho6 hx6
          have hbx := hx6.below (Nat.le_refl _) (fun k e => by cases e)
          obtain ⟨A6, c6, rfl, hc6, hrd6, _, hbl6⟩ := own_slice ho6
          have HRW := Lib.hid (And.intro hc6 (And.intro hrd6 (show ∀ ad, A6 = some ad → x8 + 1 ≤ ad.block from fun ad e => (hbl6 ad e).1)))
          have HP := Lib.hid (HP.out.below hbx)
          have HX8 := Lib.hid (HX8.out.below hbx)
          have HX4 := Lib.hid (HX4.out.below hbx)
          have HL := Lib.hid (HL.out.below hbx)
          have HB := Lib.hid (below_then HB.out HB.out.size hbx)
          clear ho6 hx6 hbx hc6 hrd6 hbl6
          have hHeld := HTS.out _ (off_below HB.out)
          refine hK.out _ _ (HTS.out _ (off_below HB.out)) ?_
          clear hK K
          (try simp only [Act.put]); (try simp only [List.setIfInBounds_toArray]); (try simp only [List.set_cons_succ]); (try simp only [List.set_cons_zero])
          refine held_take (i := 7) (v := ?nr1_6v) rfl (by kernel_rfl) (by kernel_rfl) (by kernel_rfl) (fun _ _ _ h => h) (by rfl) ?nr1_6y hHeld ?_
          case nr1_6y => ((intro w _hSw; (try dsimp only at _hSw); go_simp); try (with_reducible rfl))
          try simp only [Act.put, List.setIfInBounds_toArray, List.set_cons_zero, List.set_cons_succ]
          refine held_step (i := 8) rfl (by kernel_rfl) (by rfl) (fun K hK => ?_)
          have c8 := HX8.out.cellD 1 _ rfl
          have f8 := HX8.out.frozen 1
          go_simp
          clear c8 f8
          obtain ⟨vv, hvv⟩ : ∃ v, v = Value.slice A6 1 c6 := ⟨_, rfl⟩
          rw [← hvv]
          have hgr := setc_of HB.out x8 1 vv
          have HNL := Lib.hid (show ListQ (x8 + 1) _ vv [madeP t i] by rw [hvv]; exact listP_row HRW.out.1 HRW.out.2.1 HRW.out.2.2 HP.out hgr (Nat.lt_succ_self _))
          have HO9 := Lib.hid (off_store HB.out hgr)
          have HF9 := Lib.hid (And.intro (HX8.out.set 1 vv) (And.intro (HX4.out.grown hgr (by intro e; injection e with e; have := HXX.out.2.1; omega)) (And.intro (HL.out.store hgr (Nat.lt_succ_self _)) ((below_then HW0.out HW0.out.size HB.out).grown hgr (below_then HW0.out HW0.out.size HB.out).size (fun q e => by injection e with e; have := HXX.out; omega)))))
          have HT9 := Lib.hid (And.intro (RC.storeT (by decide) HX8.out hgr (HT.out.1.below HB.out)) ((HZ1.out.below HB.out).grown hgr (by intro e; injection e with e; have := HXX.out.2.1; omega)))
          clear hgr hvv
          have hHeld := HTS.out _ HO9.out
          refine hK.out _ _ (HTS.out _ HO9.out) ?_
          clear hK K
          (try simp only [Act.put]); (try simp only [List.setIfInBounds_toArray]); (try simp only [List.set_cons_succ]); (try simp only [List.set_cons_zero])
          refine wpAnyH_done (by kernel_rfl) ?_ _
          go_wp2
          go_meet
          case rel => exact ⟨rfl, _, HF9.out.1, HNL.out, HF9.out.2.2.1, HF9.out.2.1, HF9.out.2.2.2⟩
    case rest =>
      obtain ⟨rfl, vr, h8, hR, hL, h4, hW⟩ := hcut
      have HX8 := Lib.hid h8
      have HL := Lib.hid hL
      have HR := Lib.hid hR
      have HX4 := Lib.hid h4
      have HW0 := Lib.hid hW
      clear h8 hR hL h4 hW
      have c0 := HX8.out.cellD 0 _ rfl
      have c1 := HX8.out.cellD 1 _ rfl
      go_wp2_with (refine wpList_store_blk rfl 103 (.tmp 4) _ rfl (xa + 1) [vl, vr] rfl rfl 103 _ HX4.out (by kernel_rfl) rfl (two_one HL.out.one HR.out.one) ?_; intro w9 hz hg)
      refine bodyPost_ret (results_blk2 rfl _ _ (xa + 1) 103 [vl, vr] _ rfl hz Tryd.underlying103 rfl (by kernel_rfl)) rfl ⟨_, _, rfl, ?_, ?_, ?_⟩
      · rw [show leftP t i = [madeP t (i - 1)] from if_pos HLR.out.1]; exact (HL.out.store hg (by have := HXX.out.2.1; omega)).list
      · rw [show rightP t i = [madeP t i] from if_pos HLR.out.2]; exact (HR.out.store hg (by have := HXX.out.2.1; omega)).list
      · exact HW0.out.grown hg HW0.out.size (fun q e => by injection e with e; have := HXA.out.1; omega)
set_option maxRecDepth 100000 in
set_option maxHeartbeats 8000000 in
theorem rnone_yn (t : Av) (key : Str) (i : Nat) (cs : List Value) (w : World) (h : RC w t cs) (hg : Isth.Good (some t)) (hv : t.get key = none) (hf : t.find key = i) (hm : t.many ≤ 900000) (hs : SmallP t.pairs) (hlr : 0 < i ∧ ¬ i < t.many) :
    Calls Tryd.prog 49 #[.agg cs.toArray, S8 key] w fun e w' => ∃ vl vr, e = .returned (.tuple #[.agg #[vl, vr], .int .i64 0]) ∧ ListP w' vl (leftP t i) ∧ ListP w' vr (rightP t i) ∧ Below w.heap.size w w' := by
  have hl := h.len
  obtain ⟨n, hn⟩ : ∃ n, t.many = n := ⟨_, rfl⟩
  have HI := Lib.hid (And.intro hv (And.intro hf hn))
  have HLR := Lib.hid hlr
  have hl0 : (0 : Int) < (i : Int) := by have := hlr.1; omega
  have HSB := Lib.hid (show IntKind.i64.wrap ((i : Int) - 1) = ((i - 1 : Nat) : Int) by have := hlr; have := find_le t key; rw [hf] at this; rw [IntWalk.i64_in _ ⟨by omega, by omega⟩]; omega)
  have HIN := Lib.hid (show i - 1 < t.many by have := hlr; have := find_le t key; rw [hf] at this; omega)
  have hr0 : ¬ (i : Int) < (n : Int) := by have := hlr.2; omega
  obtain ⟨xa, hxa⟩ : ∃ n, n = w.heap.size := ⟨_, rfl⟩
  obtain ⟨w1, hw1⟩ : ∃ w1, w1 = w.alloc (.cells cs.toArray 26) := ⟨_, rfl⟩
  obtain ⟨w2, hw2⟩ : ∃ w2, w2 = w1.alloc (.cells noAbs.toArray 103) := ⟨_, rfl⟩
  have s1 : w1.heap.size = xa + 1 := by rw [hw1, World.size_alloc, hxa]
  have s2 : w2.heap.size = xa + 1 + 1 := by rw [hw2, World.size_alloc, s1]
  have b1 : Below w.heap.size w w1 := by rw [hw1]; exact (Below.refl _ _).alloc (Nat.le_refl _) _
  have b2 : Below w.heap.size w w2 := by rw [hw2]; exact b1.alloc b1.size _
  have z1 : Blk w2 xa 26 cs := by rw [hw2, hw1, hxa]; exact (Blk_new w cs 26).alloc _
  have z2 : Blk w2 (xa + 1) 103 noAbs := by rw [← s1, hw2]; exact Blk_new w1 noAbs 103
  have HLEN := Lib.hid hl
  have HLD := Lib.hid (ld_tree z1 hl)
  have HT := Lib.hid (And.intro (RC.below b2 h) (And.intro hg (And.intro hm hs)))
  have HW0 := Lib.hid b2
  have HZ1 := Lib.hid z1
  have HX4 := Lib.hid z2
  have HXA := Lib.hid (And.intro hxa s2)
  have ics : (Tryd.prog.info? 26).map (·.size) = some cs.length := by rw [hl]; kernel_rfl
  have uT := Tryd.underlying26
  clear hv hf hlr
  go_enter Tryd.func49, Tryd.ntmps49
  go_upto_region 1 with fail
  change Code.wp _ _ _ _ ((w.alloc (.cells cs.toArray 26)).alloc (.cells noAbs.toArray 103))
  rw [← hw1, ← hw2, ← hxa]
  clear hw1 hw2 s1 s2 b1 b2 z1 z2 h hg hm hs hl hxa hn
  go_wp2_with (refine wpList_load rfl (.tmp 2) rfl ⟨xa, 0, none⟩ (.agg cs.toArray) rfl HLD.out ?_)
  refine (rget_any (some t) key cs w2 HT.out.1 HT.out.2.1 HT.out.2.2.1).mono ?_
  rintro e w3 ⟨rfl, hb⟩
  rw [show getO key (some t) = none from HI.out.1]
  unfold getVal
  have HT := Lib.hid (And.intro (RC.below hb HT.out.1) HT.out.2)
  have HW0 := Lib.hid (below_then HW0.out HW0.out.size hb)
  have HZ1 := Lib.hid (HZ1.out.below hb)
  have HX4 := Lib.hid (HX4.out.below hb)
  have HS3 := Lib.hid (show xa + 1 < w3.heap.size by have := hb.size; have := HXA.out.2; omega)
  clear hb
  go_upto_region 5 with fail
  obtain ⟨w4, hw4⟩ : ∃ w4, w4 = w3.alloc (.cells #[.slice none 0 0, .slice none 0 0] 103) := ⟨_, rfl⟩
  obtain ⟨x8, hx8⟩ : ∃ n, n = w3.heap.size := ⟨_, rfl⟩
  have b4 : Below w3.heap.size w3 w4 := by rw [hw4]; exact (Below.refl _ _).alloc (Nat.le_refl _) _
  have z8 : Blk w4 x8 103 [.slice none 0 0, .slice none 0 0] := by rw [hw4, hx8]; exact Blk_new w3 [.slice none 0 0, .slice none 0 0] 103
  have s4 : w4.heap.size = x8 + 1 := by rw [hw4, World.size_alloc, hx8]
  rw [← hw4, ← hx8]
  have HX8 := Lib.hid z8
  have HXX := Lib.hid (And.intro HXA.out.1 (And.intro (show xa + 1 < x8 by rw [hx8]; exact HS3.out) (show x8 + 1 ≤ w4.heap.size by omega)))
  have HT := Lib.hid (And.intro (RC.below b4 HT.out.1) HT.out.2)
  have HW0 := Lib.hid (below_then HW0.out HW0.out.size b4)
  have HZ1 := Lib.hid (HZ1.out.below b4)
  have HX4 := Lib.hid (HX4.out.below b4)
  have HLD := Lib.hid (ld_tree HZ1.out HLEN.out)
  clear hw4 hx8 b4 z8 s4 HS3
  go_wp2_with (refine wpList_load rfl (.tmp 2) rfl ⟨xa, 0, none⟩ (.agg cs.toArray) rfl HLD.out ?_)
  refine (rfind_any (some t) key cs w4 HT.out.1 HT.out.2.1 HT.out.2.2.1).mono ?_
  rintro e w5 ⟨rfl, hb⟩
  rw [show findO key (some t) = i from HI.out.2.1]
  have HT := Lib.hid (And.intro (RC.below hb HT.out.1) HT.out.2)
  have HW0 := Lib.hid (below_then HW0.out HW0.out.size hb)
  have HZ1 := Lib.hid (HZ1.out.below hb)
  have HX4 := Lib.hid (HX4.out.below hb)
  have HX8 := Lib.hid (HX8.out.below hb)
  have HXX := Lib.hid (And.intro HXX.out.1 (And.intro HXX.out.2.1 (Nat.le_trans HXX.out.2.2 hb.size)))
  have HLD := Lib.hid (ld_tree HZ1.out HLEN.out)
  clear hb
  have HL := Lib.hid (ListQ.nil (x8 + 1) w5)
  go_wp2_with fail
  rename_i hcnd
  clear hcnd
  have HTS : Hid (∀ w', Off w5 x8 w' → w'.rangeAt xa 0 cs) := Lib.hid fun w' h => range_off (blk_range HZ1.out) h (by have := HXX.out.2.1; omega)
  have HX80 := Lib.hid HX8.out
  clear hl0
  go_cut [9] from 24 (fun v9 wr => v9 = .int .i64 (i : Nat) ∧ ∃ vl, Blk wr x8 103 [vl, .slice none 0 0] ∧ ListQ (x8 + 1) wr vl [madeP t (i - 1)] ∧ Blk wr (xa + 1) 103 noAbs ∧ RC wr t cs ∧ Blk wr xa 26 cs ∧ Below w.heap.size w wr)
  case first =>
    have HB : Hid (Below w5.heap.size w5 (w5.drewN 1)) := Lib.hid (refl_drewN w5 1)
    have HX8 := Lib.hid (HX8.out.below HB.out)
    have HX4 := Lib.hid (HX4.out.below HB.out)
    have HL := Lib.hid (HL.out.below HB.out)
    refine wp_region_held_drew (S := (fun w' => w'.rangeAt xa 0 cs)) (by kernel_rfl) ?nl_s0 (fun hHeld => ?_)
    case nl_s0 => exact HTS.out _ (off_below HB.out)
    refine held_take (i := 0) (v := ?nl_1v) rfl (by kernel_rfl) (by kernel_rfl) (by kernel_rfl) (fun _ _ _ h => h) (by rfl) ?nl_1y hHeld ?_
    case nl_1y => ((intro w _hSw; (try dsimp only at _hSw); go_simp); try (with_reducible rfl))
    try simp only [Act.put, List.setIfInBounds_toArray, List.set_cons_zero, List.set_cons_succ]
    refine held_row (i := 2) rfl (by kernel_rfl) (by kernel_rfl) (by kernel_rfl) _ _ rfl _ _ rfl ?nl_2C ?nl_2D (fun _ _ _ h => h) (by rfl) ?nl_2a ?nl_2b ?nl_2c ?nl_2d hHeld ?_
    case nl_2a => (intro w hSw; (try dsimp only at hSw); go_split_ands; assumption)
    case nl_2b => assumption
    case nl_2c => rfl
    case nl_2d => first | assumption | (simp only [*]; done)
    try simp only [Act.put, List.setIfInBounds_toArray, List.set_cons_zero, List.set_cons_succ]
    refine held_take (i := 3) (v := ?nl_3v) rfl (by kernel_rfl) (by kernel_rfl) (by kernel_rfl) (fun _ _ _ h => h) (by rfl) ?nl_3y hHeld ?_
    case nl_3y => ((intro w _hSw; (try dsimp only at _hSw); go_simp); try (with_reducible rfl))
    try simp only [Act.put, List.setIfInBounds_toArray, List.set_cons_zero, List.set_cons_succ]
    refine held_take (i := 4) (v := (.int .i64 ((i - 1 : Nat) : Int))) rfl (by kernel_rfl) (by kernel_rfl) (by kernel_rfl) (fun _ _ _ h => h) (by rfl) ?nl_4y hHeld ?_
    case nl_4y => (intro w _hSw; (try dsimp only at _hSw); go_simp; try rw [HSB.out])
    try simp only [Act.put, List.setIfInBounds_toArray, List.set_cons_zero, List.set_cons_succ]
    refine held_two (i := 1) (j := 5) rfl rfl (by kernel_rfl) (by rfl) (by rfl) (fun K hK => ?_) (fun K hK => ?_)
    · skip
      have c8 := HX8.out.cellD 0 _ rfl
      have c8o := HX80.out.cellD 0 _ rfl
      go_simp
      clear c8 c8o
      have hHeld := HTS.out _ (off_below HB.out)
      refine hK.out _ _ (HTS.out _ (off_below HB.out)) ?_
      clear hK K
      (try simp only [Act.put]); (try simp only [List.setIfInBounds_toArray]); (try simp only [List.set_cons_succ]); (try simp only [List.set_cons_zero])
      refine held_step (i := 5) rfl (by kernel_rfl) (by rfl) (fun K hK => ?_)
      go_simp
      refine (rat_any t (i - 1) cs _ (HT.out.1.below HB.out) HIN.out HT.out.2.2.1 HT.out.2.2.2).mono ?_
      rintro e wc ⟨cp, rfl, hp, hb⟩
      have HP := Lib.hid (hp.mono (show x8 + 1 ≤ _ from Nat.le_trans HXX.out.2.2 HB.out.size))
      have HX8 := Lib.hid (HX8.out.below hb)
      have HX4 := Lib.hid (HX4.out.below hb)
      have HL := Lib.hid (HL.out.below hb)
      have HB := Lib.hid (below_then HB.out HB.out.size hb)
      clear hp hb
      go_wp2_with fail
      have hHeld := HTS.out _ (off_below HB.out)
      refine hK.out _ _ (HTS.out _ (off_below HB.out)) ?_
      clear hK K
      try simp only [Act.put, List.setIfInBounds_toArray, List.set_cons_zero, List.set_cons_succ]
      refine held_step (i := 6) rfl (by kernel_rfl) (by rfl) (fun K hK => ?_)
      refine wp_row1 tPr8 (.tmp 29) rfl cp rfl HP.out.len (by decide) ?_
      have hal := alloc_of HB.out (.cells cp.toArray 98)
      have hr1 := blk_new_at HB.out cp 98
      obtain ⟨wn, hwn⟩ := alloc_named HB.out (.cells cp.toArray 98)
      rw [← hwn] at hal hr1 ⊢
      have HR1 := Lib.hid hr1
      have HP := Lib.hid (HP.out.below hal)
      have HX8 := Lib.hid (HX8.out.below hal)
      have HX4 := Lib.hid (HX4.out.below hal)
      have HL := Lib.hid (HL.out.below hal)
      have HB := Lib.hid (below_then HB.out HB.out.size hal)
      clear hal hr1 hwn
      have hHeld := HTS.out _ (off_below HB.out)
      refine hK.out _ _ (HTS.out _ (off_below HB.out)) ?_
      clear hK K
      (try simp only [Act.put]); (try simp only [List.setIfInBounds_toArray]); (try simp only [List.set_cons_succ]); (try simp only [List.set_cons_zero])
      refine held_step (i := 7) rfl (by kernel_rfl) (by rfl) (fun K hK => ?_)
      refine wp_app0 tPr8 (.tmp 25) (.tmp 30) rfl (x8 + 1) _ 0 [] rfl (World.ownsRow_nil _ _ _ _) _ 1 1 cp rfl HR1.out.rd0 HP.out.len HP.out.one (by decide) (by decide) (Nat.le_trans HXX.out.2.2 HB.out.size) ?_
      intro v6 wc ho6 hx6
      have hbx := hx6.below (Nat.le_refl _) (fun k e => by cases e)
      obtain ⟨A6, c6, rfl, hc6, hrd6, _, hbl6⟩ := own_slice ho6
      have HRW := Lib.hid (And.intro hc6 (And.intro hrd6 (show ∀ ad, A6 = some ad → x8 + 1 ≤ ad.block from fun ad e => (hbl6 ad e).1)))
      have HP := Lib.hid (HP.out.below hbx)
      have HX8 := Lib.hid (HX8.out.below hbx)
      have HX4 := Lib.hid (HX4.out.below hbx)
      have HL := Lib.hid (HL.out.below hbx)
      have HB := Lib.hid (below_then HB.out HB.out.size hbx)
      clear ho6 hx6 hbx hc6 hrd6 hbl6
      have hHeld := HTS.out _ (off_below HB.out)
      refine hK.out _ _ (HTS.out _ (off_below HB.out)) ?_
      clear hK K
      (try simp only [Act.put]); (try simp only [List.setIfInBounds_toArray]); (try simp only [List.set_cons_succ]); (try simp only [List.set_cons_zero])
      refine held_take (i := 8) (v := ?nl_5v) rfl (by kernel_rfl) (by kernel_rfl) (by kernel_rfl) (fun _ _ _ h => h) (by rfl) ?nl_5y hHeld ?_
      case nl_5y => ((intro w _hSw; (try dsimp only at _hSw); go_simp); try (with_reducible rfl))
      try simp only [Act.put, List.setIfInBounds_toArray, List.set_cons_zero, List.set_cons_succ]
      refine held_step (i := 9) rfl (by kernel_rfl) (by rfl) (fun K hK => ?_)
      have c8 := HX8.out.cellD 0 _ rfl
      have f8 := HX8.out.frozen 0
      go_simp
      clear c8 f8
      obtain ⟨vv, hvv⟩ : ∃ v, v = Value.slice A6 1 c6 := ⟨_, rfl⟩
      rw [← hvv]
      have hgr := setc_of HB.out x8 0 vv
      have HNL := Lib.hid (show ListQ (x8 + 1) _ vv [madeP t (i - 1)] by rw [hvv]; exact listP_row HRW.out.1 HRW.out.2.1 HRW.out.2.2 HP.out hgr (Nat.lt_succ_self _))
      have HO9 := Lib.hid (off_store HB.out hgr)
      have HF9 := Lib.hid (And.intro (HX8.out.set 0 vv) (And.intro (HX4.out.grown hgr (by intro e; injection e with e; have := HXX.out.2.1; omega)) (And.intro (HL.out.store hgr (Nat.lt_succ_self _)) ((below_then HW0.out HW0.out.size HB.out).grown hgr (below_then HW0.out HW0.out.size HB.out).size (fun q e => by injection e with e; have := HXX.out; omega)))))
      have HT9 := Lib.hid (And.intro (RC.storeT (by decide) HX8.out hgr (HT.out.1.below HB.out)) ((HZ1.out.below HB.out).grown hgr (by intro e; injection e with e; have := HXX.out.2.1; omega)))
      clear hgr hvv
      have hHeld := HTS.out _ HO9.out
      refine hK.out _ _ (HTS.out _ HO9.out) ?_
      clear hK K
      (try simp only [Act.put]); (try simp only [List.setIfInBounds_toArray]); (try simp only [List.set_cons_succ]); (try simp only [List.set_cons_zero])
      refine wpAnyH_done (by kernel_rfl) ?_ _
      go_wp2
      go_meet
      case rel => exact ⟨rfl, _, HF9.out.1, HNL.out, HF9.out.2.1, HT9.out.1, HT9.out.2, HF9.out.2.2.2⟩
    · skip
      go_simp
      refine (rat_any t (i - 1) cs _ (HT.out.1.below HB.out) HIN.out HT.out.2.2.1 HT.out.2.2.2).mono ?_
      rintro e wc ⟨cp, rfl, hp, hb⟩
      have HP := Lib.hid (hp.mono (show x8 + 1 ≤ _ from Nat.le_trans HXX.out.2.2 HB.out.size))
      have HX8 := Lib.hid (HX8.out.below hb)
      have HX4 := Lib.hid (HX4.out.below hb)
      have HL := Lib.hid (HL.out.below hb)
      have HB := Lib.hid (below_then HB.out HB.out.size hb)
      clear hp hb
      go_wp2_with fail
      have hHeld := HTS.out _ (off_below HB.out)
      refine hK.out _ _ (HTS.out _ (off_below HB.out)) ?_
      clear hK K
      try simp only [Act.put, List.setIfInBounds_toArray, List.set_cons_zero, List.set_cons_succ]
      refine held_two (i := 1) (j := 6) rfl rfl (by kernel_rfl) (by rfl) (by rfl) (fun K hK => ?_) (fun K hK => ?_)
      · skip
        have c8 := HX8.out.cellD 0 _ rfl
        have c8o := HX80.out.cellD 0 _ rfl
        go_simp
        clear c8 c8o
        have hHeld := HTS.out _ (off_below HB.out)
        refine hK.out _ _ (HTS.out _ (off_below HB.out)) ?_
        clear hK K
        (try simp only [Act.put]); (try simp only [List.setIfInBounds_toArray]); (try simp only [List.set_cons_succ]); (try simp only [List.set_cons_zero])
        refine held_step (i := 6) rfl (by kernel_rfl) (by rfl) (fun K hK => ?_)
        refine wp_row1 tPr8 (.tmp 29) rfl cp rfl HP.out.len (by decide) ?_
        have hal := alloc_of HB.out (.cells cp.toArray 98)
        have hr1 := blk_new_at HB.out cp 98
        obtain ⟨wn, hwn⟩ := alloc_named HB.out (.cells cp.toArray 98)
        rw [← hwn] at hal hr1 ⊢
        have HR1 := Lib.hid hr1
        have HP := Lib.hid (HP.out.below hal)
        have HX8 := Lib.hid (HX8.out.below hal)
        have HX4 := Lib.hid (HX4.out.below hal)
        have HL := Lib.hid (HL.out.below hal)
        have HB := Lib.hid (below_then HB.out HB.out.size hal)
        clear hal hr1 hwn
        have hHeld := HTS.out _ (off_below HB.out)
        refine hK.out _ _ (HTS.out _ (off_below HB.out)) ?_
        clear hK K
        (try simp only [Act.put]); (try simp only [List.setIfInBounds_toArray]); (try simp only [List.set_cons_succ]); (try simp only [List.set_cons_zero])
        refine held_step (i := 7) rfl (by kernel_rfl) (by rfl) (fun K hK => ?_)
        refine wp_app0 tPr8 (.tmp 25) (.tmp 30) rfl (x8 + 1) _ 0 [] rfl (World.ownsRow_nil _ _ _ _) _ 1 1 cp rfl HR1.out.rd0 HP.out.len HP.out.one (by decide) (by decide) (Nat.le_trans HXX.out.2.2 HB.out.size) ?_
        intro v6 wc ho6 hx6
        have hbx := hx6.below (Nat.le_refl _) (fun k e => by cases e)
        obtain ⟨A6, c6, rfl, hc6, hrd6, _, hbl6⟩ := own_slice ho6
        have HRW := Lib.hid (And.intro hc6 (And.intro hrd6 (show ∀ ad, A6 = some ad → x8 + 1 ≤ ad.block from fun ad e => (hbl6 ad e).1)))
        have HP := Lib.hid (HP.out.below hbx)
        have HX8 := Lib.hid (HX8.out.below hbx)
        have HX4 := Lib.hid (HX4.out.below hbx)
        have HL := Lib.hid (HL.out.below hbx)
        have HB := Lib.hid (below_then HB.out HB.out.size hbx)
        clear ho6 hx6 hbx hc6 hrd6 hbl6
        have hHeld := HTS.out _ (off_below HB.out)
        refine hK.out _ _ (HTS.out _ (off_below HB.out)) ?_
        clear hK K
        (try simp only [Act.put]); (try simp only [List.setIfInBounds_toArray]); (try simp only [List.set_cons_succ]); (try simp only [List.set_cons_zero])
        refine held_take (i := 8) (v := ?nl_6v) rfl (by kernel_rfl) (by kernel_rfl) (by kernel_rfl) (fun _ _ _ h => h) (by rfl) ?nl_6y hHeld ?_
        case nl_6y => ((intro w _hSw; (try dsimp only at _hSw); go_simp); try (with_reducible rfl))
        try simp only [Act.put, List.setIfInBounds_toArray, List.set_cons_zero, List.set_cons_succ]
        refine held_step (i := 9) rfl (by kernel_rfl) (by rfl) (fun K hK => ?_)
        have c8 := HX8.out.cellD 0 _ rfl
        have f8 := HX8.out.frozen 0
        go_simp
        clear c8 f8
        obtain ⟨vv, hvv⟩ : ∃ v, v = Value.slice A6 1 c6 := ⟨_, rfl⟩
        rw [← hvv]
        have hgr := setc_of HB.out x8 0 vv
        have HNL := Lib.hid (show ListQ (x8 + 1) _ vv [madeP t (i - 1)] by rw [hvv]; exact listP_row HRW.out.1 HRW.out.2.1 HRW.out.2.2 HP.out hgr (Nat.lt_succ_self _))
        have HO9 := Lib.hid (off_store HB.out hgr)
        have HF9 := Lib.hid (And.intro (HX8.out.set 0 vv) (And.intro (HX4.out.grown hgr (by intro e; injection e with e; have := HXX.out.2.1; omega)) (And.intro (HL.out.store hgr (Nat.lt_succ_self _)) ((below_then HW0.out HW0.out.size HB.out).grown hgr (below_then HW0.out HW0.out.size HB.out).size (fun q e => by injection e with e; have := HXX.out; omega)))))
        have HT9 := Lib.hid (And.intro (RC.storeT (by decide) HX8.out hgr (HT.out.1.below HB.out)) ((HZ1.out.below HB.out).grown hgr (by intro e; injection e with e; have := HXX.out.2.1; omega)))
        clear hgr hvv
        have hHeld := HTS.out _ HO9.out
        refine hK.out _ _ (HTS.out _ HO9.out) ?_
        clear hK K
        (try simp only [Act.put]); (try simp only [List.setIfInBounds_toArray]); (try simp only [List.set_cons_succ]); (try simp only [List.set_cons_zero])
        refine wpAnyH_done (by kernel_rfl) ?_ _
        go_wp2
        go_meet
        case rel => exact ⟨rfl, _, HF9.out.1, HNL.out, HF9.out.2.1, HT9.out.1, HT9.out.2, HF9.out.2.2.2⟩
      · skip
        refine wp_row1 tPr8 (.tmp 29) rfl cp rfl HP.out.len (by decide) ?_
        have hal := alloc_of HB.out (.cells cp.toArray 98)
        have hr1 := blk_new_at HB.out cp 98
        obtain ⟨wn, hwn⟩ := alloc_named HB.out (.cells cp.toArray 98)
        rw [← hwn] at hal hr1 ⊢
        have HR1 := Lib.hid hr1
        have HP := Lib.hid (HP.out.below hal)
        have HX8 := Lib.hid (HX8.out.below hal)
        have HX4 := Lib.hid (HX4.out.below hal)
        have HL := Lib.hid (HL.out.below hal)
        have HB := Lib.hid (below_then HB.out HB.out.size hal)
        clear hal hr1 hwn
        have hHeld := HTS.out _ (off_below HB.out)
        refine hK.out _ _ (HTS.out _ (off_below HB.out)) ?_
        clear hK K
        (try simp only [Act.put]); (try simp only [List.setIfInBounds_toArray]); (try simp only [List.set_cons_succ]); (try simp only [List.set_cons_zero])
        refine held_step (i := 1) rfl (by kernel_rfl) (by rfl) (fun K hK => ?_)
        have c8 := HX8.out.cellD 0 _ rfl
        have c8o := HX80.out.cellD 0 _ rfl
        go_simp
        clear c8 c8o
        have hHeld := HTS.out _ (off_below HB.out)
        refine hK.out _ _ (HTS.out _ (off_below HB.out)) ?_
        clear hK K
        (try simp only [Act.put]); (try simp only [List.setIfInBounds_toArray]); (try simp only [List.set_cons_succ]); (try simp only [List.set_cons_zero])
        refine held_step (i := 7) rfl (by kernel_rfl) (by rfl) (fun K hK => ?_)
        refine wp_app0 tPr8 (.tmp 25) (.tmp 30) rfl (x8 + 1) _ 0 [] rfl (World.ownsRow_nil _ _ _ _) _ 1 1 cp rfl HR1.out.rd0 HP.out.len HP.out.one (by decide) (by decide) (Nat.le_trans HXX.out.2.2 HB.out.size) ?_
        intro v6 wc ho6 hx6
        have hbx := hx6.below (Nat.le_refl _) (fun k e => by cases e)
        obtain ⟨A6, c6, rfl, hc6, hrd6, _, hbl6⟩ := own_slice ho6
        have HRW := Lib.hid (And.intro hc6 (And.intro hrd6 (show ∀ ad, A6 = some ad → x8 + 1 ≤ ad.block from fun ad e => (hbl6 ad e).1)))
        have HP := Lib.hid (HP.out.below hbx)
        have HX8 := Lib.hid (HX8.out.below hbx)
        have HX4 := Lib.hid (HX4.out.below hbx)
        have HL := Lib.hid (HL.out.below hbx)
        have HB := Lib.hid (below_then HB.out HB.out.size hbx)
        clear ho6 hx6 hbx hc6 hrd6 hbl6
        have hHeld := HTS.out _ (off_below HB.out)
        refine hK.out _ _ (HTS.out _ (off_below HB.out)) ?_
        clear hK K
        (try simp only [Act.put]); (try simp only [List.setIfInBounds_toArray]); (try simp only [List.set_cons_succ]); (try simp only [List.set_cons_zero])
        refine held_take (i := 8) (v := ?nl_7v) rfl (by kernel_rfl) (by kernel_rfl) (by kernel_rfl) (fun _ _ _ h => h) (by rfl) ?nl_7y hHeld ?_
        case nl_7y => ((intro w _hSw; (try dsimp only at _hSw); go_simp); try (with_reducible rfl))
        try simp only [Act.put, List.setIfInBounds_toArray, List.set_cons_zero, List.set_cons_succ]
        refine held_step (i := 9) rfl (by kernel_rfl) (by rfl) (fun K hK => ?_)
        have c8 := HX8.out.cellD 0 _ rfl
        have f8 := HX8.out.frozen 0
        go_simp
        clear c8 f8
        obtain ⟨vv, hvv⟩ : ∃ v, v = Value.slice A6 1 c6 := ⟨_, rfl⟩
        rw [← hvv]
        have hgr := setc_of HB.out x8 0 vv
        have HNL := Lib.hid (show ListQ (x8 + 1) _ vv [madeP t (i - 1)] by rw [hvv]; exact listP_row HRW.out.1 HRW.out.2.1 HRW.out.2.2 HP.out hgr (Nat.lt_succ_self _))
        have HO9 := Lib.hid (off_store HB.out hgr)
        have HF9 := Lib.hid (And.intro (HX8.out.set 0 vv) (And.intro (HX4.out.grown hgr (by intro e; injection e with e; have := HXX.out.2.1; omega)) (And.intro (HL.out.store hgr (Nat.lt_succ_self _)) ((below_then HW0.out HW0.out.size HB.out).grown hgr (below_then HW0.out HW0.out.size HB.out).size (fun q e => by injection e with e; have := HXX.out; omega)))))
        have HT9 := Lib.hid (And.intro (RC.storeT (by decide) HX8.out hgr (HT.out.1.below HB.out)) ((HZ1.out.below HB.out).grown hgr (by intro e; injection e with e; have := HXX.out.2.1; omega)))
        clear hgr hvv
        have hHeld := HTS.out _ HO9.out
        refine hK.out _ _ (HTS.out _ HO9.out) ?_
        clear hK K
        (try simp only [Act.put]); (try simp only [List.setIfInBounds_toArray]); (try simp only [List.set_cons_succ]); (try simp only [List.set_cons_zero])
        refine wpAnyH_done (by kernel_rfl) ?_ _
        go_wp2
        go_meet
        case rel => exact ⟨rfl, _, HF9.out.1, HNL.out, HF9.out.2.1, HT9.out.1, HT9.out.2, HF9.out.2.2.2⟩
  case rest =>
    obtain ⟨rfl, vl, h8, hL, h4, hT, hz, hW⟩ := hcut
    have HX8 := Lib.hid h8
    have HL := Lib.hid hL
    have HX4 := Lib.hid h4
    have HT := Lib.hid (And.intro hT HT.out.2)
    have HZ1 := Lib.hid hz
    have HW0 := Lib.hid hW
    have HXX := Lib.hid (And.intro HXX.out.1 (And.intro HXX.out.2.1 (show x8 + 1 ≤ wc.heap.size from h8.lt)))
    have HLD := Lib.hid (ld_tree HZ1.out HLEN.out)
    clear h8 hL h4 hT hz hW
    go_wp2_with (refine wpList_load rfl (.tmp 2) rfl ⟨xa, 0, none⟩ (.agg cs.toArray) rfl HLD.out ?_)
    refine (rlen_to t cs wc HT.out.1 n HI.out.2.2 HT.out.2.2.1).mono ?_
    rintro e w6 ⟨Ar, cr, rfl, hb⟩
    have HT := Lib.hid (And.intro (RC.below hb HT.out.1) HT.out.2)
    have HW0 := Lib.hid (below_then HW0.out HW0.out.size hb)
    have HZ1 := Lib.hid (HZ1.out.below hb)
    have HX4 := Lib.hid (HX4.out.below hb)
    have HX8 := Lib.hid (HX8.out.below hb)
    have HXX := Lib.hid (And.intro HXX.out.1 (And.intro HXX.out.2.1 (Nat.le_trans HXX.out.2.2 hb.size)))
    have HLD := Lib.hid (ld_tree HZ1.out HLEN.out)
    have HL := Lib.hid (HL.out.below hb)
    clear hb
    have HR := Lib.hid (ListQ.nil (x8 + 1) w6)
    have c0 := HX8.out.cellD 0 _ rfl
    have c1 := HX8.out.cellD 1 _ rfl
    go_wp2_with (refine wpList_store_blk rfl 103 (.tmp 4) _ rfl (xa + 1) [vl, .slice none 0 0] rfl rfl 103 _ HX4.out (by kernel_rfl) rfl (two_one HL.out.one HR.out.one) ?_; intro w9 hz hg)
    refine bodyPost_ret (results_blk2 rfl _ _ (xa + 1) 103 [vl, .slice none 0 0] _ rfl hz Tryd.underlying103 rfl (by kernel_rfl)) rfl ⟨_, _, rfl, ?_, ?_, ?_⟩
    · rw [show leftP t i = [madeP t (i - 1)] from if_pos HLR.out.1]; exact (HL.out.store hg (by have := HXX.out.2.1; omega)).list
    · rw [show rightP t i = [] from if_neg HLR.out.2]; exact (HR.out.store hg (by have := HXX.out.2.1; omega)).list
    · exact HW0.out.grown hg HW0.out.size (fun q e => by injection e with e; have := HXA.out.1; omega)
set_option maxRecDepth 100000 in
set_option maxHeartbeats 8000000 in
theorem rnone_ny (t : Av) (key : Str) (i : Nat) (cs : List Value) (w : World) (h : RC w t cs) (hg : Isth.Good (some t)) (hv : t.get key = none) (hf : t.find key = i) (hm : t.many ≤ 900000) (hs : SmallP t.pairs) (hlr : i = 0 ∧ i < t.many) :
    Calls Tryd.prog 49 #[.agg cs.toArray, S8 key] w fun e w' => ∃ vl vr, e = .returned (.tuple #[.agg #[vl, vr], .int .i64 0]) ∧ ListP w' vl (leftP t i) ∧ ListP w' vr (rightP t i) ∧ Below w.heap.size w w' := by
  have hl := h.len
  obtain ⟨n, hn⟩ : ∃ n, t.many = n := ⟨_, rfl⟩
  have HI := Lib.hid (And.intro hv (And.intro hf hn))
  have HLR := Lib.hid hlr
  have hl0 : ¬ (0 : Int) < (i : Int) := by have := hlr.1; omega
  have HIN2 := Lib.hid (show i < t.many from hlr.2)
  have hr0 : (i : Int) < (n : Int) := by have := hlr.2; omega
  obtain ⟨xa, hxa⟩ : ∃ n, n = w.heap.size := ⟨_, rfl⟩
  obtain ⟨w1, hw1⟩ : ∃ w1, w1 = w.alloc (.cells cs.toArray 26) := ⟨_, rfl⟩
  obtain ⟨w2, hw2⟩ : ∃ w2, w2 = w1.alloc (.cells noAbs.toArray 103) := ⟨_, rfl⟩
  have s1 : w1.heap.size = xa + 1 := by rw [hw1, World.size_alloc, hxa]
  have s2 : w2.heap.size = xa + 1 + 1 := by rw [hw2, World.size_alloc, s1]
  have b1 : Below w.heap.size w w1 := by rw [hw1]; exact (Below.refl _ _).alloc (Nat.le_refl _) _
  have b2 : Below w.heap.size w w2 := by rw [hw2]; exact b1.alloc b1.size _
  have z1 : Blk w2 xa 26 cs := by rw [hw2, hw1, hxa]; exact (Blk_new w cs 26).alloc _
  have z2 : Blk w2 (xa + 1) 103 noAbs := by rw [← s1, hw2]; exact Blk_new w1 noAbs 103
  have HLEN := Lib.hid hl
  have HLD := Lib.hid (ld_tree z1 hl)
  have HT := Lib.hid (And.intro (RC.below b2 h) (And.intro hg (And.intro hm hs)))
  have HW0 := Lib.hid b2
  have HZ1 := Lib.hid z1
  have HX4 := Lib.hid z2
  have HXA := Lib.hid (And.intro hxa s2)
  have ics : (Tryd.prog.info? 26).map (·.size) = some cs.length := by rw [hl]; kernel_rfl
  have uT := Tryd.underlying26
  clear hv hf hlr
  go_enter Tryd.func49, Tryd.ntmps49
  go_upto_region 1 with fail
  change Code.wp _ _ _ _ ((w.alloc (.cells cs.toArray 26)).alloc (.cells noAbs.toArray 103))
  rw [← hw1, ← hw2, ← hxa]
  clear hw1 hw2 s1 s2 b1 b2 z1 z2 h hg hm hs hl hxa hn
  go_wp2_with (refine wpList_load rfl (.tmp 2) rfl ⟨xa, 0, none⟩ (.agg cs.toArray) rfl HLD.out ?_)
  refine (rget_any (some t) key cs w2 HT.out.1 HT.out.2.1 HT.out.2.2.1).mono ?_
  rintro e w3 ⟨rfl, hb⟩
  rw [show getO key (some t) = none from HI.out.1]
  unfold getVal
  have HT := Lib.hid (And.intro (RC.below hb HT.out.1) HT.out.2)
  have HW0 := Lib.hid (below_then HW0.out HW0.out.size hb)
  have HZ1 := Lib.hid (HZ1.out.below hb)
  have HX4 := Lib.hid (HX4.out.below hb)
  have HS3 := Lib.hid (show xa + 1 < w3.heap.size by have := hb.size; have := HXA.out.2; omega)
  clear hb
  go_upto_region 5 with fail
  obtain ⟨w4, hw4⟩ : ∃ w4, w4 = w3.alloc (.cells #[.slice none 0 0, .slice none 0 0] 103) := ⟨_, rfl⟩
  obtain ⟨x8, hx8⟩ : ∃ n, n = w3.heap.size := ⟨_, rfl⟩
  have b4 : Below w3.heap.size w3 w4 := by rw [hw4]; exact (Below.refl _ _).alloc (Nat.le_refl _) _
  have z8 : Blk w4 x8 103 [.slice none 0 0, .slice none 0 0] := by rw [hw4, hx8]; exact Blk_new w3 [.slice none 0 0, .slice none 0 0] 103
  have s4 : w4.heap.size = x8 + 1 := by rw [hw4, World.size_alloc, hx8]
  rw [← hw4, ← hx8]
  have HX8 := Lib.hid z8
  have HXX := Lib.hid (And.intro HXA.out.1 (And.intro (show xa + 1 < x8 by rw [hx8]; exact HS3.out) (show x8 + 1 ≤ w4.heap.size by omega)))
  have HT := Lib.hid (And.intro (RC.below b4 HT.out.1) HT.out.2)
  have HW0 := Lib.hid (below_then HW0.out HW0.out.size b4)
  have HZ1 := Lib.hid (HZ1.out.below b4)
  have HX4 := Lib.hid (HX4.out.below b4)
  have HLD := Lib.hid (ld_tree HZ1.out HLEN.out)
  clear hw4 hx8 b4 z8 s4 HS3
  go_wp2_with (refine wpList_load rfl (.tmp 2) rfl ⟨xa, 0, none⟩ (.agg cs.toArray) rfl HLD.out ?_)
  refine (rfind_any (some t) key cs w4 HT.out.1 HT.out.2.1 HT.out.2.2.1).mono ?_
  rintro e w5 ⟨rfl, hb⟩
  rw [show findO key (some t) = i from HI.out.2.1]
  have HT := Lib.hid (And.intro (RC.below hb HT.out.1) HT.out.2)
  have HW0 := Lib.hid (below_then HW0.out HW0.out.size hb)
  have HZ1 := Lib.hid (HZ1.out.below hb)
  have HX4 := Lib.hid (HX4.out.below hb)
  have HX8 := Lib.hid (HX8.out.below hb)
  have HXX := Lib.hid (And.intro HXX.out.1 (And.intro HXX.out.2.1 (Nat.le_trans HXX.out.2.2 hb.size)))
  have HLD := Lib.hid (ld_tree HZ1.out HLEN.out)
  clear hb
  have HL := Lib.hid (ListQ.nil (x8 + 1) w5)
  go_wp2_with (refine wpList_load rfl (.tmp 2) rfl ⟨xa, 0, none⟩ (.agg cs.toArray) rfl HLD.out ?_)
  refine (rlen_to t cs w5 HT.out.1 n HI.out.2.2 HT.out.2.2.1).mono ?_
  rintro e w6 ⟨Ar, cr, rfl, hb⟩
  have HT := Lib.hid (And.intro (RC.below hb HT.out.1) HT.out.2)
  have HW0 := Lib.hid (below_then HW0.out HW0.out.size hb)
  have HZ1 := Lib.hid (HZ1.out.below hb)
  have HX4 := Lib.hid (HX4.out.below hb)
  have HX8 := Lib.hid (HX8.out.below hb)
  have HXX := Lib.hid (And.intro HXX.out.1 (And.intro HXX.out.2.1 (Nat.le_trans HXX.out.2.2 hb.size)))
  have HLD := Lib.hid (ld_tree HZ1.out HLEN.out)
  have HL := Lib.hid (HL.out.below hb)
  clear hb
  go_wp2_with fail
  have HTS : Hid (∀ w', Off w6 x8 w' → w'.rangeAt xa 0 cs) := Lib.hid fun w' h => range_off (blk_range HZ1.out) h (by have := HXX.out.2.1; omega)
  have HX80 := Lib.hid HX8.out
  clear hr0
  go_cut [9] from 38 (fun v9 wr => v9 = .int .i64 (i : Nat) ∧ ∃ vr, Blk wr x8 103 [.slice none 0 0, vr] ∧ ListQ (x8 + 1) wr vr [madeP t i] ∧ ListQ (x8 + 1) wr (.slice none 0 0) [] ∧ Blk wr (xa + 1) 103 noAbs ∧ Below w.heap.size w wr)
  case first =>
    have HB : Hid (Below w6.heap.size w6 (w6.drewN 1)) := Lib.hid (refl_drewN w6 1)
    have HX8 := Lib.hid (HX8.out.below HB.out)
    have HX4 := Lib.hid (HX4.out.below HB.out)
    have HL := Lib.hid (HL.out.below HB.out)
    refine wp_region_held_drew (S := (fun w' => w'.rangeAt xa 0 cs)) (by kernel_rfl) ?nr0_s0 (fun hHeld => ?_)
    case nr0_s0 => exact HTS.out _ (off_below HB.out)
    refine held_take (i := 0) (v := ?nr0_1v) rfl (by kernel_rfl) (by kernel_rfl) (by kernel_rfl) (fun _ _ _ h => h) (by rfl) ?nr0_1y hHeld ?_
    case nr0_1y => ((intro w _hSw; (try dsimp only at _hSw); go_simp); try (with_reducible rfl))
    try simp only [Act.put, List.setIfInBounds_toArray, List.set_cons_zero, List.set_cons_succ]
    refine held_row (i := 2) rfl (by kernel_rfl) (by kernel_rfl) (by kernel_rfl) _ _ rfl _ _ rfl ?nr0_2C ?nr0_2D (fun _ _ _ h => h) (by rfl) ?nr0_2a ?nr0_2b ?nr0_2c ?nr0_2d hHeld ?_
    case nr0_2a => (intro w hSw; (try dsimp only at hSw); go_split_ands; assumption)
    case nr0_2b => assumption
    case nr0_2c => rfl
    case nr0_2d => first | assumption | (simp only [*]; done)
    try simp only [Act.put, List.setIfInBounds_toArray, List.set_cons_zero, List.set_cons_succ]
    refine held_take (i := 3) (v := ?nr0_3v) rfl (by kernel_rfl) (by kernel_rfl) (by kernel_rfl) (fun _ _ _ h => h) (by rfl) ?nr0_3y hHeld ?_
    case nr0_3y => ((intro w _hSw; (try dsimp only at _hSw); go_simp); try (with_reducible rfl))
    try simp only [Act.put, List.setIfInBounds_toArray, List.set_cons_zero, List.set_cons_succ]
    refine held_two (i := 1) (j := 4) rfl rfl (by kernel_rfl) (by rfl) (by rfl) (fun K hK => ?_) (fun K hK => ?_)
    · skip
      have c8 := HX8.out.cellD 1 _ rfl
      have c8o := HX80.out.cellD 1 _ rfl
      go_simp
      clear c8 c8o
      have hHeld := HTS.out _ (off_below HB.out)
      refine hK.out _ _ (HTS.out _ (off_below HB.out)) ?_
      clear hK K
      (try simp only [Act.put]); (try simp only [List.setIfInBounds_toArray]); (try simp only [List.set_cons_succ]); (try simp only [List.set_cons_zero])
      refine held_step (i := 4) rfl (by kernel_rfl) (by rfl) (fun K hK => ?_)
      go_simp
      refine (rat_any t i cs _ (HT.out.1.below HB.out) HIN2.out HT.out.2.2.1 HT.out.2.2.2).mono ?_
      rintro e wc ⟨cp, rfl, hp, hb⟩
      have HP := Lib.hid (hp.mono (show x8 + 1 ≤ _ from Nat.le_trans HXX.out.2.2 HB.out.size))
      have HX8 := Lib.hid (HX8.out.below hb)
      have HX4 := Lib.hid (HX4.out.below hb)
      have HL := Lib.hid (HL.out.below hb)
      have HB := Lib.hid (below_then HB.out HB.out.size hb)
      clear hp hb
      go_wp2_with fail
      have hHeld := HTS.out _ (off_below HB.out)
      refine hK.out _ _ (HTS.out _ (off_below HB.out)) ?_
      clear hK K
      try simp only [Act.put, List.setIfInBounds_toArray, List.set_cons_zero, List.set_cons_succ]
      refine held_step (i := 5) rfl (by kernel_rfl) (by rfl) (fun K hK => ?_)
      refine wp_row1 tPr8 (.tmp 42) rfl cp rfl HP.out.len (by decide) ?_
      have hal := alloc_of HB.out (.cells cp.toArray 98)
      have hr1 := blk_new_at HB.out cp 98
      obtain ⟨wn, hwn⟩ := alloc_named HB.out (.cells cp.toArray 98)
      rw [← hwn] at hal hr1 ⊢
      have HR1 := Lib.hid hr1
      have HP := Lib.hid (HP.out.below hal)
      have HX8 := Lib.hid (HX8.out.below hal)
      have HX4 := Lib.hid (HX4.out.below hal)
      have HL := Lib.hid (HL.out.below hal)
      have HB := Lib.hid (below_then HB.out HB.out.size hal)
      clear hal hr1 hwn
      have hHeld := HTS.out _ (off_below HB.out)
      refine hK.out _ _ (HTS.out _ (off_below HB.out)) ?_
      clear hK K
      (try simp only [Act.put]); (try simp only [List.setIfInBounds_toArray]); (try simp only [List.set_cons_succ]); (try simp only [List.set_cons_zero])
      refine held_step (i := 6) rfl (by kernel_rfl) (by rfl) (fun K hK => ?_)
      refine wp_app0 tPr8 (.tmp 39) (.tmp 43) rfl (x8 + 1) _ 0 [] rfl (World.ownsRow_nil _ _ _ _) _ 1 1 cp rfl HR1.out.rd0 HP.out.len HP.out.one (by decide) (by decide) (Nat.le_trans HXX.out.2.2 HB.out.size) ?_
      intro v6 wc ho6 hx6
      have hbx := hx6.below (Nat.le_refl _) (fun k e => by cases e)
      obtain ⟨A6, c6, rfl, hc6, hrd6, _, hbl6⟩ := own_slice ho6
      have HRW := Lib.hid (And.intro hc6 (And.intro hrd6 (show ∀ ad, A6 = some ad → x8 + 1 ≤ ad.block from fun ad e => (hbl6 ad e).1)))
      have HP := Lib.hid (HP.out.below hbx)
      have HX8 := Lib.hid (HX8.out.below hbx)
      have HX4 := Lib.hid (HX4.out.below hbx)
      have HL := Lib.hid (HL.out.below hbx)
      have HB := Lib.hid (below_then HB.out HB.out.size hbx)
      clear ho6 hx6 hbx hc6 hrd6 hbl6
      have hHeld := HTS.out _ (off_below HB.out)
      refine hK.out _ _ (HTS.out _ (off_below HB.out)) ?_
      clear hK K
      (try simp only [Act.put]); (try simp only [List.setIfInBounds_toArray]); (try simp only [List.set_cons_succ]); (try simp only [List.set_cons_zero])
      refine held_take (i := 7) (v := ?nr0_4v) rfl (by kernel_rfl) (by kernel_rfl) (by kernel_rfl) (fun _ _ _ h => h) (by rfl) ?nr0_4y hHeld ?_
      case nr0_4y => ((intro w _hSw; (try dsimp only at _hSw); go_simp); try (with_reducible rfl))
      try simp only [Act.put, List.setIfInBounds_toArray, List.set_cons_zero, List.set_cons_succ]
      refine held_step (i := 8) rfl (by kernel_rfl) (by rfl) (fun K hK => ?_)
      have c8 := HX8.out.cellD 1 _ rfl
      have f8 := HX8.out.frozen 1
      go_simp
      clear c8 f8
      obtain ⟨vv, hvv⟩ : ∃ v, v = Value.slice A6 1 c6 := ⟨_, rfl⟩
      rw [← hvv]
      have hgr := setc_of HB.out x8 1 vv
      have HNL := Lib.hid (show ListQ (x8 + 1) _ vv [madeP t i] by rw [hvv]; exact listP_row HRW.out.1 HRW.out.2.1 HRW.out.2.2 HP.out hgr (Nat.lt_succ_self _))
      have HO9 := Lib.hid (off_store HB.out hgr)
      have HF9 := Lib.hid (And.intro (HX8.out.set 1 vv) (And.intro (HX4.out.grown hgr (by intro e; injection e with e; have := HXX.out.2.1; omega)) (And.intro (HL.out.store hgr (Nat.lt_succ_self _)) ((below_then HW0.out HW0.out.size HB.out).grown hgr (below_then HW0.out HW0.out.size HB.out).size (fun q e => by injection e with e; have := HXX.out; omega)))))
      have HT9 := Lib.hid (And.intro (RC.storeT (by decide) HX8.out hgr (HT.out.1.below HB.out)) ((HZ1.out.below HB.out).grown hgr (by intro e; injection e with e; have := HXX.out.2.1; omega)))
      clear hgr hvv
      have hHeld := HTS.out _ HO9.out
      refine hK.out _ _ (HTS.out _ HO9.out) ?_
      clear hK K
      (try simp only [Act.put]); (try simp only [List.setIfInBounds_toArray]); (try simp only [List.set_cons_succ]); (try simp only [List.set_cons_zero])
      refine wpAnyH_done (by kernel_rfl) ?_ _
      go_wp2
      go_meet
      case rel => exact ⟨rfl, _, HF9.out.1, HNL.out, HF9.out.2.2.1, HF9.out.2.1, HF9.out.2.2.2⟩
    · skip
      go_simp
      refine (rat_any t i cs _ (HT.out.1.below HB.out) HIN2.out HT.out.2.2.1 HT.out.2.2.2).mono ?_
      rintro e wc ⟨cp, rfl, hp, hb⟩
      have HP := Lib.hid (hp.mono (show x8 + 1 ≤ _ from Nat.le_trans HXX.out.2.2 HB.out.size))
      have HX8 := Lib.hid (HX8.out.below hb)
      have HX4 := Lib.hid (HX4.out.below hb)
      have HL := Lib.hid (HL.out.below hb)
      have HB := Lib.hid (below_then HB.out HB.out.size hb)
      clear hp hb
      go_wp2_with fail
      have hHeld := HTS.out _ (off_below HB.out)
      refine hK.out _ _ (HTS.out _ (off_below HB.out)) ?_
      clear hK K
      try simp only [Act.put, List.setIfInBounds_toArray, List.set_cons_zero, List.set_cons_succ]
      refine held_two (i := 1) (j := 5) rfl rfl (by kernel_rfl) (by rfl) (by rfl) (fun K hK => ?_) (fun K hK => ?_)
      · skip
        have c8 := HX8.out.cellD 1 _ rfl
        have c8o := HX80.out.cellD 1 _ rfl
        go_simp
        clear c8 c8o
        have hHeld := HTS.out _ (off_below HB.out)
        refine hK.out _ _ (HTS.out _ (off_below HB.out)) ?_
        clear hK K
        (try simp only [Act.put]); (try simp only [List.setIfInBounds_toArray]); (try simp only [List.set_cons_succ]); (try simp only [List.set_cons_zero])
        refine held_step (i := 5) rfl (by kernel_rfl) (by rfl) (fun K hK => ?_)
        refine wp_row1 tPr8 (.tmp 42) rfl cp rfl HP.out.len (by decide) ?_
        have hal := alloc_of HB.out (.cells cp.toArray 98)
        have hr1 := blk_new_at HB.out cp 98
        obtain ⟨wn, hwn⟩ := alloc_named HB.out (.cells cp.toArray 98)
        rw [← hwn] at hal hr1 ⊢
        have HR1 := Lib.hid hr1
        have HP := Lib.hid (HP.out.below hal)
        have HX8 := Lib.hid (HX8.out.below hal)
        have HX4 := Lib.hid (HX4.out.below hal)
        have HL := Lib.hid (HL.out.below hal)
        have HB := Lib.hid (below_then HB.out HB.out.size hal)
        clear hal hr1 hwn
        have hHeld := HTS.out _ (off_below HB.out)
        refine hK.out _ _ (HTS.out _ (off_below HB.out)) ?_
        clear hK K
        (try simp only [Act.put]); (try simp only [List.setIfInBounds_toArray]); (try simp only [List.set_cons_succ]); (try simp only [List.set_cons_zero])
        refine held_step (i := 6) rfl (by kernel_rfl) (by rfl) (fun K hK => ?_)
        refine wp_app0 tPr8 (.tmp 39) (.tmp 43) rfl (x8 + 1) _ 0 [] rfl (World.ownsRow_nil _ _ _ _) _ 1 1 cp rfl HR1.out.rd0 HP.out.len HP.out.one (by decide) (by decide) (Nat.le_trans HXX.out.2.2 HB.out.size) ?_
        intro v6 wc ho6 hx6
        have hbx := hx6.below (Nat.le_refl _) (fun k e => by cases e)
        obtain ⟨A6, c6, rfl, hc6, hrd6, _, hbl6⟩ := own_slice ho6
        have HRW := Lib.hid (And.intro hc6 (And.intro hrd6 (show ∀ ad, A6 = some ad → x8 + 1 ≤ ad.block from fun ad e => (hbl6 ad e).1)))
        have HP := Lib.hid (HP.out.below hbx)
        have HX8 := Lib.hid (HX8.out.below hbx)
        have HX4 := Lib.hid (HX4.out.below hbx)
        have HL := Lib.hid (HL.out.below hbx)
        have HB := Lib.hid (below_then HB.out HB.out.size hbx)
        clear ho6 hx6 hbx hc6 hrd6 hbl6
        have hHeld := HTS.out _ (off_below HB.out)
        refine hK.out _ _ (HTS.out _ (off_below HB.out)) ?_
        clear hK K
        (try simp only [Act.put]); (try simp only [List.setIfInBounds_toArray]); (try simp only [List.set_cons_succ]); (try simp only [List.set_cons_zero])
        refine held_take (i := 7) (v := ?nr0_5v) rfl (by kernel_rfl) (by kernel_rfl) (by kernel_rfl) (fun _ _ _ h => h) (by rfl) ?nr0_5y hHeld ?_
        case nr0_5y => ((intro w _hSw; (try dsimp only at _hSw); go_simp); try (with_reducible rfl))
        try simp only [Act.put, List.setIfInBounds_toArray, List.set_cons_zero, List.set_cons_succ]
        refine held_step (i := 8) rfl (by kernel_rfl) (by rfl) (fun K hK => ?_)
        have c8 := HX8.out.cellD 1 _ rfl
        have f8 := HX8.out.frozen 1
        go_simp
        clear c8 f8
        obtain ⟨vv, hvv⟩ : ∃ v, v = Value.slice A6 1 c6 := ⟨_, rfl⟩
        rw [← hvv]
        have hgr := setc_of HB.out x8 1 vv
        have HNL := Lib.hid (show ListQ (x8 + 1) _ vv [madeP t i] by rw [hvv]; exact listP_row HRW.out.1 HRW.out.2.1 HRW.out.2.2 HP.out hgr (Nat.lt_succ_self _))
        have HO9 := Lib.hid (off_store HB.out hgr)
        have HF9 := Lib.hid (And.intro (HX8.out.set 1 vv) (And.intro (HX4.out.grown hgr (by intro e; injection e with e; have := HXX.out.2.1; omega)) (And.intro (HL.out.store hgr (Nat.lt_succ_self _)) ((below_then HW0.out HW0.out.size HB.out).grown hgr (below_then HW0.out HW0.out.size HB.out).size (fun q e => by injection e with e; have := HXX.out; omega)))))
        have HT9 := Lib.hid (And.intro (RC.storeT (by decide) HX8.out hgr (HT.out.1.below HB.out)) ((HZ1.out.below HB.out).grown hgr (by intro e; injection e with e; have := HXX.out.2.1; omega)))
        clear hgr hvv
        have hHeld := HTS.out _ HO9.out
        refine hK.out _ _ (HTS.out _ HO9.out) ?_
        clear hK K
        (try simp only [Act.put]); (try simp only [List.setIfInBounds_toArray]); (try simp only [List.set_cons_succ]); (try simp only [List.set_cons_zero])
        refine wpAnyH_done (by kernel_rfl) ?_ _
        go_wp2
        go_meet
        case rel => exact ⟨rfl, _, HF9.out.1, HNL.out, HF9.out.2.2.1, HF9.out.2.1, HF9.out.2.2.2⟩
      · skip
        refine wp_row1 tPr8 (.tmp 42) rfl cp rfl HP.out.len (by decide) ?_
        have hal := alloc_of HB.out (.cells cp.toArray 98)
        have hr1 := blk_new_at HB.out cp 98
        obtain ⟨wn, hwn⟩ := alloc_named HB.out (.cells cp.toArray 98)
        rw [← hwn] at hal hr1 ⊢
        have HR1 := Lib.hid hr1
        have HP := Lib.hid (HP.out.below hal)
        have HX8 := Lib.hid (HX8.out.below hal)
        have HX4 := Lib.hid (HX4.out.below hal)
        have HL := Lib.hid (HL.out.below hal)
        have HB := Lib.hid (below_then HB.out HB.out.size hal)
        clear hal hr1 hwn
        have hHeld := HTS.out _ (off_below HB.out)
        refine hK.out _ _ (HTS.out _ (off_below HB.out)) ?_
        clear hK K
        (try simp only [Act.put]); (try simp only [List.setIfInBounds_toArray]); (try simp only [List.set_cons_succ]); (try simp only [List.set_cons_zero])
        refine held_step (i := 1) rfl (by kernel_rfl) (by rfl) (fun K hK => ?_)
        have c8 := HX8.out.cellD 1 _ rfl
        have c8o := HX80.out.cellD 1 _ rfl
        go_simp
        clear c8 c8o
        have hHeld := HTS.out _ (off_below HB.out)
        refine hK.out _ _ (HTS.out _ (off_below HB.out)) ?_
        clear hK K
        (try simp only [Act.put]); (try simp only [List.setIfInBounds_toArray]); (try simp only [List.set_cons_succ]); (try simp only [List.set_cons_zero])
        refine held_step (i := 6) rfl (by kernel_rfl) (by rfl) (fun K hK => ?_)
        refine wp_app0 tPr8 (.tmp 39) (.tmp 43) rfl (x8 + 1) _ 0 [] rfl (World.ownsRow_nil _ _ _ _) _ 1 1 cp rfl HR1.out.rd0 HP.out.len HP.out.one (by decide) (by decide) (Nat.le_trans HXX.out.2.2 HB.out.size) ?_
        intro v6 wc ho6 hx6
        have hbx := hx6.below (Nat.le_refl _) (fun k e => by cases e)
        obtain ⟨A6, c6, rfl, hc6, hrd6, _, hbl6⟩ := own_slice ho6
        have HRW := Lib.hid (And.intro hc6 (And.intro hrd6 (show ∀ ad, A6 = some ad → x8 + 1 ≤ ad.block from fun ad e => (hbl6 ad e).1)))
        have HP := Lib.hid (HP.out.below hbx)
        have HX8 := Lib.hid (HX8.out.below hbx)
        have HX4 := Lib.hid (HX4.out.below hbx)
        have HL := Lib.hid (HL.out.below hbx)
        have HB := Lib.hid (below_then HB.out HB.out.size hbx)
        clear ho6 hx6 hbx hc6 hrd6 hbl6
        have hHeld := HTS.out _ (off_below HB.out)
        refine hK.out _ _ (HTS.out _ (off_below HB.out)) ?_
        clear hK K
        (try simp only [Act.put]); (try simp only [List.setIfInBounds_toArray]); (try simp only [List.set_cons_succ]); (try simp only [List.set_cons_zero])
        refine held_take (i := 7) (v := ?nr0_6v) rfl (by kernel_rfl) (by kernel_rfl) (by kernel_rfl) (fun _ _ _ h => h) (by rfl) ?nr0_6y hHeld ?_
        case nr0_6y => ((intro w _hSw; (try dsimp only at _hSw); go_simp); try (with_reducible rfl))
        try simp only [Act.put, List.setIfInBounds_toArray, List.set_cons_zero, List.set_cons_succ]
        refine held_step (i := 8) rfl (by kernel_rfl) (by rfl) (fun K hK => ?_)
        have c8 := HX8.out.cellD 1 _ rfl
        have f8 := HX8.out.frozen 1
        go_simp
        clear c8 f8
        obtain ⟨vv, hvv⟩ : ∃ v, v = Value.slice A6 1 c6 := ⟨_, rfl⟩
        rw [← hvv]
        have hgr := setc_of HB.out x8 1 vv
        have HNL := Lib.hid (show ListQ (x8 + 1) _ vv [madeP t i] by rw [hvv]; exact listP_row HRW.out.1 HRW.out.2.1 HRW.out.2.2 HP.out hgr (Nat.lt_succ_self _))
        have HO9 := Lib.hid (off_store HB.out hgr)
        have HF9 := Lib.hid (And.intro (HX8.out.set 1 vv) (And.intro (HX4.out.grown hgr (by intro e; injection e with e; have := HXX.out.2.1; omega)) (And.intro (HL.out.store hgr (Nat.lt_succ_self _)) ((below_then HW0.out HW0.out.size HB.out).grown hgr (below_then HW0.out HW0.out.size HB.out).size (fun q e => by injection e with e; have := HXX.out; omega)))))
        have HT9 := Lib.hid (And.intro (RC.storeT (by decide) HX8.out hgr (HT.out.1.below HB.out)) ((HZ1.out.below HB.out).grown hgr (by intro e; injection e with e; have := HXX.out.2.1; omega)))
        clear hgr hvv
        have hHeld := HTS.out _ HO9.out
        refine hK.out _ _ (HTS.out _ HO9.out) ?_
        clear hK K
        (try simp only [Act.put]); (try simp only [List.setIfInBounds_toArray]); (try simp only [List.set_cons_succ]); (try simp only [List.set_cons_zero])
        refine wpAnyH_done (by kernel_rfl) ?_ _
        go_wp2
        go_meet
        case rel => exact ⟨rfl, _, HF9.out.1, HNL.out, HF9.out.2.2.1, HF9.out.2.1, HF9.out.2.2.2⟩
  case rest =>
    obtain ⟨rfl, vr, h8, hR, hL, h4, hW⟩ := hcut
    have HX8 := Lib.hid h8
    have HL := Lib.hid hL
    have HR := Lib.hid hR
    have HX4 := Lib.hid h4
    have HW0 := Lib.hid hW
    clear h8 hR hL h4 hW
    have c0 := HX8.out.cellD 0 _ rfl
    have c1 := HX8.out.cellD 1 _ rfl
    go_wp2_with (refine wpList_store_blk rfl 103 (.tmp 4) _ rfl (xa + 1) [.slice none 0 0, vr] rfl rfl 103 _ HX4.out (by kernel_rfl) rfl (two_one HL.out.one HR.out.one) ?_; intro w9 hz hg)
    refine bodyPost_ret (results_blk2 rfl _ _ (xa + 1) 103 [.slice none 0 0, vr] _ rfl hz Tryd.underlying103 rfl (by kernel_rfl)) rfl ⟨_, _, rfl, ?_, ?_, ?_⟩
    · rw [show leftP t i = [] from if_neg (by have := HLR.out.1; omega)]; exact (HL.out.store hg (by have := HXX.out.2.1; omega)).list
    · rw [show rightP t i = [madeP t i] from if_pos HLR.out.2]; exact (HR.out.store hg (by have := HXX.out.2.1; omega)).list
    · exact HW0.out.grown hg HW0.out.size (fun q e => by injection e with e; have := HXA.out.1; omega)
set_option maxRecDepth 100000 in
set_option maxHeartbeats 2000000 in
theorem rnone_ee (key : Str) (cs : List Value) (w : World) (h : RO w none cs) :
    Calls Tryd.prog 49 #[.agg cs.toArray, S8 key] w fun e w' => e = .returned (.tuple #[.agg noAbs.toArray, .int .i64 0]) ∧ Below w.heap.size w w' := by
  have hl := h.len
  obtain ⟨xa, hxa⟩ : ∃ n, n = w.heap.size := ⟨_, rfl⟩
  obtain ⟨w1, hw1⟩ : ∃ w1, w1 = w.alloc (.cells cs.toArray 26) := ⟨_, rfl⟩
  obtain ⟨w2, hw2⟩ : ∃ w2, w2 = w1.alloc (.cells noAbs.toArray 103) := ⟨_, rfl⟩
  have s1 : w1.heap.size = xa + 1 := by rw [hw1, World.size_alloc, hxa]
  have b1 : Below w.heap.size w w1 := by rw [hw1]; exact (Below.refl _ _).alloc (Nat.le_refl _) _
  have b2 : Below w.heap.size w w2 := by rw [hw2]; exact b1.alloc b1.size _
  have z1 : Blk w2 xa 26 cs := by rw [hw2, hw1, hxa]; exact (Blk_new w cs 26).alloc _
  have z2 : Blk w2 (xa + 1) 103 noAbs := by rw [← s1, hw2]; exact Blk_new w1 noAbs 103
  have HLEN := Lib.hid hl
  have HLD := Lib.hid (ld_tree z1 hl)
  have HT := Lib.hid (RO.below b2 h)
  have HW0 := Lib.hid b2
  have HZ1 := Lib.hid z1
  have HX4 := Lib.hid z2
  have HXA := Lib.hid hxa
  go_enter Tryd.func49, Tryd.ntmps49
  go_upto_region 1 with fail
  change Code.wp _ _ _ _ ((w.alloc (.cells cs.toArray 26)).alloc (.cells noAbs.toArray 103))
  rw [← hw1, ← hw2, ← hxa]
  clear hw1 hw2 s1 b1 b2 z1 z2 h hl hxa
  go_wp2_with (refine wpList_load rfl (.tmp 2) rfl ⟨xa, 0, none⟩ (.agg cs.toArray) rfl HLD.out ?_)
  refine (rget_any none key cs w2 HT.out trivial (by decide)).mono ?_
  rintro e w3 ⟨rfl, hb⟩
  rw [show getO key none = none from rfl]
  unfold getVal
  have HT := Lib.hid (RO.below hb HT.out)
  have HW0 := Lib.hid (below_then HW0.out HW0.out.size hb)
  have HZ1 := Lib.hid (HZ1.out.below hb)
  have HX4 := Lib.hid (HX4.out.below hb)
  clear hb
  go_upto_region 5 with fail
  obtain ⟨w4, hw4⟩ : ∃ w4, w4 = w3.alloc (.cells #[.slice none 0 0, .slice none 0 0] 103) := ⟨_, rfl⟩
  obtain ⟨x8, hx8⟩ : ∃ n, n = w3.heap.size := ⟨_, rfl⟩
  have b4 : Below w3.heap.size w3 w4 := by rw [hw4]; exact (Below.refl _ _).alloc (Nat.le_refl _) _
  have z8 : Blk w4 x8 103 [.slice none 0 0, .slice none 0 0] := by rw [hw4, hx8]; exact Blk_new w3 [.slice none 0 0, .slice none 0 0] 103
  rw [← hw4, ← hx8]
  have HX8 := Lib.hid z8
  have HT := Lib.hid (RO.below b4 HT.out)
  have HW0 := Lib.hid (below_then HW0.out HW0.out.size b4)
  have HZ1 := Lib.hid (HZ1.out.below b4)
  have HX4 := Lib.hid (HX4.out.below b4)
  have HLD := Lib.hid (ld_tree HZ1.out HLEN.out)
  clear hw4 hx8 b4 z8
  go_wp2_with (refine wpList_load rfl (.tmp 2) rfl ⟨xa, 0, none⟩ (.agg cs.toArray) rfl HLD.out ?_)
  refine (rfind_any none key cs w4 HT.out trivial (by decide)).mono ?_
  rintro e w5 ⟨rfl, hb⟩
  rw [show findO key none = 0 from rfl]
  have HT := Lib.hid (RO.below hb HT.out)
  have HW0 := Lib.hid (below_then HW0.out HW0.out.size hb)
  have HZ1 := Lib.hid (HZ1.out.below hb)
  have HX4 := Lib.hid (HX4.out.below hb)
  have HX8 := Lib.hid (HX8.out.below hb)
  have HLD := Lib.hid (ld_tree HZ1.out HLEN.out)
  have hl0 : ¬ (0 : Int) < ((0 : Nat) : Int) := by omega
  clear hb
  go_wp2_with (refine wpList_load rfl (.tmp 2) rfl ⟨xa, 0, none⟩ (.agg cs.toArray) rfl HLD.out ?_)
  refine (rpairs_any none cs w5 HT.out (by decide)).mono ?_
  rintro e w6 ⟨A6, c6, rfl, _, _, hb⟩
  rw [show manyO none = 0 from rfl]
  have HW0 := Lib.hid (below_then HW0.out HW0.out.size hb)
  have HX4 := Lib.hid (HX4.out.below hb)
  have HX8 := Lib.hid (HX8.out.below hb)
  have c0 := HX8.out.cellD 0 _ rfl
  have c1 := HX8.out.cellD 1 _ rfl
  clear hb
  go_wp2_with (refine wpList_store_blk rfl 103 (.tmp 4) _ rfl (xa + 1) [.slice none 0 0, .slice none 0 0] rfl rfl 103 _ HX4.out (by kernel_rfl) rfl noAbs_one ?_; intro w9 hz hg)
  refine bodyPost_ret (results_blk2 rfl _ _ (xa + 1) 103 [.slice none 0 0, .slice none 0 0] _ rfl hz Tryd.underlying103 rfl (by kernel_rfl)) rfl ⟨rfl, ?_⟩
  exact HW0.out.grown hg HW0.out.size (fun q e => by injection e with e; have := HXA.out; omega)
end Go.Proofs.YtdekealpachhmaaDoor
