/- Layer 7's reference: Find by its contract. Layer 7's reference: Range by its contract. Layer 7's reference: Root, Height, Path of any tree, none too. Layer 8: proofs in memory; fault, at, Exist by their contracts. '!=' of a step and itself. errors.As at the target *api.Errno: an api.Fault of an api.Errno; an api.Errno itself; nil. num of laws 7 and 8: an error's number, by errors.As. Law 7: pairs by its contract, where both rows hold the same pairs. Law 7: what AvlRuns asks, each by one contract of any place; a guarded load. -/
import Derived.Test.YtdekealpachhmaaDoorRvG
import Derived.Test.YtdekealpachhmaaDoorMrng
import Derived.Test.YtdekealpachhmaaDoorMref
import Derived.Test.YtdekealpachhmaaDoorPaths
import Derived.Test.YtdekealpachhmaaDoorEqH
import Derived.Test.YtdekealpachhmaaDoorProg
import Derived.Test.YtdekealpachhmaaDoorMem
import Derived.LaidEql
import Derived.Stop.Asserts
import Derived.RowKitTokens
import Derived.Lib.Hide
import Derived.Test.YtdekealpachhmaaDoorFault
import Derived.RangeFuncBox

namespace Go.Isth
open Go Go.Op
theorem prefix_find : ∀ (l : List (Str × Str)) (k : Nat) (key : Str), Sorted l → k ≤ l.length → (∀ (j : Nat) p, j < k → l[j]? = some p → bytesLess p.1 key = true) → (∀ p, l[k]? = some p → bytesLess p.1 key = false) → (l.filter fun x => bytesLess x.1 key).length = k
  | [], k, key, _, hk, _, _ => by
    obtain rfl : k = 0 := by simpa using hk
    rfl
  | x :: l, 0, key, hs, _, _, h2 => by
    obtain ⟨h1, _⟩ := List.pairwise_cons.1 hs
    have hx := h2 x rfl
    rw [List.length_eq_zero_iff, List.filter_eq_nil_iff]
    intro z hz
    rcases List.mem_cons.1 hz with rfl | hz
    · rw [hx]; simp
    · cases hzk : bytesLess z.1 key with
      | false => simp
      | true => rw [less_trans (h1 z hz) hzk] at hx; cases hx
  | x :: l, k + 1, key, hs, hk, h1, h2 => by
    obtain ⟨_, hs2⟩ := List.pairwise_cons.1 hs
    rw [List.filter_cons, if_pos (h1 0 x (by omega) rfl), List.length_cons, prefix_find l k key hs2 (by simpa using hk) (fun j p hj hp => h1 (j + 1) p (by omega) (by simpa using hp)) (fun p hp => h2 p (by simpa using hp))]
end Go.Isth
namespace Go.Proofs.YtdekealpachhmaaDoor
open Go Go.RowKit Go.Isth

def RFindInv (w : World) (l : List (Str × Str)) (key : Str) (n : Value) (wr : World) : Prop := ∃ k : Nat, n = .int .i64 (k : Nat) ∧ k ≤ l.length ∧ (∀ (j : Nat) p, j < k → l[j]? = some p → Op.bytesLess p.1 key = true) ∧ wr = w
set_option maxRecDepth 100000 in
set_option maxHeartbeats 1000000 in
theorem rfind_any (t : Option Av) (key : Str) (cs : List Value) (w : World) (h : RO w t cs) (hg : Isth.Good t) (hm : manyO t ≤ 900000) :
    Calls Tryd.prog 39 #[.agg cs.toArray, S8 key] w fun e w' => e = .returned (.int .i64 (findO key t : Nat)) ∧ Below w.heap.size w w' := by
  have hl := h.len
  have hz := Blk_new w cs 26
  have hb0 : Below w.heap.size w (w.alloc (.cells cs.toArray 26)) := (Below.refl _ _).alloc (Nat.le_refl _) _
  have HLD := Lib.hid (run_load_agg (P := Tryd.prog) Tryd.underlying26 rfl (by kernel_rfl) (w.alloc (.cells cs.toArray 26)) ⟨w.heap.size, 0, none⟩ cs hl (fun j u hj => by rw [add_plain, Nat.zero_add]; exact hz.cellD j u hj))
  have HT := Lib.hid (And.intro (h.below hb0) (And.intro hg (And.intro hm hb0)))
  go_enter Tryd.func39, Tryd.ntmps39
  go_upto_region 1 with fail
  change Code.wp _ _ _ _ (w.alloc (.cells cs.toArray 26))
  generalize w.alloc (.cells cs.toArray 26) = w0 at *
  clear h hg hm hl hz hb0
  go_wp2_with (refine wpList_load rfl (.tmp 2) rfl ⟨w.heap.size, 0, none⟩ (.agg cs.toArray) rfl HLD.out ?_)
  refine (rpairs_any t cs w0 HT.out.1 HT.out.2.2.1).mono ?_
  rintro e wc ⟨A, c, rfl, hc, hr, hb⟩
  have H1 := Lib.hid (And.intro hr (And.intro hc (below_then HT.out.2.2.2 HT.out.2.2.2.size hb)))
  obtain ⟨n, hn⟩ : ∃ n, manyO t = n := ⟨_, rfl⟩
  have HN := Lib.hid (show (pairsO t).length = n by rw [← hn]; exact pairsO_length t)
  rw [hn]
  clear hr hc hb hn
  go_wp2_with fail
  go_loopw [6] (fun i wr => RFindInv wc (pairsO t) key i wr) (fun i _ => n - (intOf i).toNat)
  case atStart => exact ⟨0, rfl, Nat.zero_le _, fun j p h => by omega, rfl⟩
  case round =>
    obtain ⟨k, rfl, hk, hno, hw⟩ := hrel
    obtain rfl : wc = wr := hw.symm
    rw [HN.out] at hk
    have HNO := Lib.hid hno
    clear hno hw
    rcases Nat.lt_or_ge k n with hkn | hkn
    · obtain ⟨p, hp⟩ : ∃ p, (pairsO t)[k]? = some p := ⟨_, List.getElem?_eq_getElem (by rw [HN.out]; exact hkn)⟩
      obtain ⟨b, o, rfl, hcl⟩ := H1.out.1 (by rw [pairsC_len, HN.out]; omega)
      have e1 := hcl _ _ (pairsC_cells _ _ _ hp).1
      have hk1 : (k : Int) < (n : Int) := by omega
      have HP := Lib.hid hp
      have hm9 : n ≤ 900000 := by have := HT.out.2.2.1; have := HN.out; have := pairsO_length t; omega
      clear hp hcl
      cases hb : Op.bytesLess p.1 key with
      | true =>
        go_wp2
        refine ⟨⟨k + 1, by simp, by rw [HN.out]; omega, fun j q hj hq => ?_, rfl⟩, ?_⟩
        · rcases Nat.lt_or_ge j k with hjk | hjk
          · exact HNO.out j q hjk hq
          · obtain rfl : j = k := by omega
            rw [HP.out] at hq
            obtain rfl := Option.some.inj hq
            exact hb
        · show n - (Int.toNat ((k : Int) + 1)) < n - Int.toNat (k : Int)
          omega
      | false =>
        go_wp2
        go_ret
        refine ⟨?_, H1.out.2.2⟩
        rw [findO_pairs HT.out.2.1, prefix_find (pairsO t) k key (sorted_good HT.out.2.1) (by rw [HN.out]; omega) HNO.out (fun q hq => by rw [HP.out] at hq; obtain rfl := Option.some.inj hq; exact hb)]
        rfl
    · have hk1 : ¬ (k : Int) < (n : Int) := by omega
      go_wp2
      go_ret
      refine ⟨?_, H1.out.2.2⟩
      rw [findO_pairs HT.out.2.1, prefix_find (pairsO t) k key (sorted_good HT.out.2.1) (by rw [HN.out]; omega) HNO.out (fun q hq => by rw [List.getElem?_eq_none (by rw [HN.out]; exact hkn)] at hq; cases hq)]
      rfl
end Go.Proofs.YtdekealpachhmaaDoor

namespace Go.Isth
open Go Go.RowKit Go.Op
theorem take_nextR {l : List (Str × Str)} {k : Nat} {a : Str × Str} (h : l[k]? = some a) : l.take (k + 1) = l.take k ++ [a] := by
  rw [List.take_add_one, h]
  rfl
theorem between_in (frm til : Str) (l : List (Str × Str)) (k : Nat) (p : Str × Str) (h : l[k]? = some p) (hp : (!bytesLess p.1 frm && Isth.below til p) = true) : between frm til (l.take (k + 1)) = between frm til (l.take k) ++ [p] := by
  rw [take_nextR h]
  unfold between
  rw [List.filter_append, show [p].filter (fun x => !bytesLess x.1 frm && Isth.below til x) = [p] from (List.filter_cons ..).trans (if_pos hp)]
theorem between_out (frm til : Str) (l : List (Str × Str)) (k : Nat) (p : Str × Str) (h : l[k]? = some p) (hp : (!bytesLess p.1 frm && Isth.below til p) = false) : between frm til (l.take (k + 1)) = between frm til (l.take k) := by
  rw [take_nextR h]
  unfold between
  rw [List.filter_append, show [p].filter (fun x => !bytesLess x.1 frm && Isth.below til x) = [] from (List.filter_cons ..).trans (if_neg (by rw [hp]; simp)), List.append_nil]
end Go.Isth
namespace Go.Proofs.YtdekealpachhmaaDoor
open Go Go.RowKit Go.Isth

def RRngInv (w : World) (l : List (Str × Str)) (frm til : Str) (v i : Value) (wr : World) : Prop := ∃ k : Nat, i = .int .i64 (k : Nat) ∧ k ≤ l.length ∧ wr.ownsRow w.heap.size 38 2 v (between frm til (l.take k)).length (pairsC (between frm til (l.take k))) ∧ Below w.heap.size w wr
set_option maxRecDepth 100000 in
set_option maxHeartbeats 2000000 in
theorem rrange_any (t : Option Av) (frm til : Str) (cs : List Value) (w : World) (h : RO w t cs) (hm : manyO t ≤ 900000) :
    Calls Tryd.prog 40 #[.agg cs.toArray, S8 frm, S8 til] w fun e w' => ∃ A c, e = .returned (.slice A (rangeO frm til t).length c) ∧ Rd w' A (pairsC (rangeO frm til t)) ∧ Below w.heap.size w w' := by
  have hl := h.len
  have hz := Blk_new w cs 26
  have hb0 : Below w.heap.size w (w.alloc (.cells cs.toArray 26)) := (Below.refl _ _).alloc (Nat.le_refl _) _
  have HLD := Lib.hid (run_load_agg (P := Tryd.prog) Tryd.underlying26 rfl (by kernel_rfl) (w.alloc (.cells cs.toArray 26)) ⟨w.heap.size, 0, none⟩ cs hl (fun j u hj => by rw [add_plain, Nat.zero_add]; exact hz.cellD j u hj))
  have HT := Lib.hid (And.intro (h.below hb0) (And.intro hm hb0))
  go_enter Tryd.func40, Tryd.ntmps40
  go_upto_region 1 with fail
  change Code.wp _ _ _ _ (w.alloc (.cells cs.toArray 26))
  generalize w.alloc (.cells cs.toArray 26) = w0 at *
  clear h hm hl hz hb0
  go_wp2_with (refine wpList_load rfl (.tmp 3) rfl ⟨w.heap.size, 0, none⟩ (.agg cs.toArray) rfl HLD.out ?_)
  refine (rpairs_any t cs w0 HT.out.1 HT.out.2.1).mono ?_
  rintro e wc ⟨A, c, rfl, hc, hr, hb⟩
  have H1 := Lib.hid (And.intro hr (And.intro hc (below_then HT.out.2.2 HT.out.2.2.size hb)))
  obtain ⟨n, hn⟩ : ∃ n, manyO t = n := ⟨_, rfl⟩
  have HN := Lib.hid (show (pairsO t).length = n by rw [← hn]; exact pairsO_length t)
  have HM9 := Lib.hid (show n ≤ 900000 by rw [← hn]; exact HT.out.2.1)
  rw [hn]
  clear hr hc hb hn
  go_wp2_with fail
  go_loopw [8, 9] (fun v i wr => RRngInv wc (pairsO t) frm til v i wr) (fun _ i _ => n - (intOf i).toNat)
  case atStart => exact ⟨0, rfl, Nat.zero_le _, World.ownsRow_nil _ _ _ _, Below.refl _ _⟩
  case round =>
    obtain ⟨k, rfl, hk, ho, hB⟩ := hrel
    rw [HN.out] at hk
    obtain ⟨A8, c8, rfl, _, hrd8, _⟩ := own_slice ho
    have HRD8 := Lib.hid hrd8
    clear hrd8
    rcases Nat.lt_or_ge k n with hkn | hkn
    · obtain ⟨p, hp⟩ : ∃ p, (pairsO t)[k]? = some p := ⟨_, List.getElem?_eq_getElem (by rw [HN.out]; exact hkn)⟩
      obtain ⟨b, o, rfl, hcl⟩ := H1.out.1 (by rw [pairsC_len, HN.out]; omega)
      have e1 := cell_below (hcl _ _ (pairsC_cells _ _ _ hp).1) hB
      have e2 := cell_below (hcl _ _ (pairsC_cells _ _ _ hp).2) hB
      rw [← Nat.add_assoc] at e2
      have hk1 : (k : Int) < (n : Int) := by omega
      have HP := Lib.hid hp
      have HO := Lib.hid ho
      have HB := Lib.hid hB
      have hm9 := HM9.out
      have hcn : (between frm til ((pairsO t).take k)).length ≤ k := Nat.le_trans (List.length_filter_le _ _) (by rw [List.length_take]; omega)
      have HML := Lib.hid (show (between frm til ((pairsO t).take k)).length + 1 ≤ maxLen ∧ ((between frm til ((pairsO t).take k)).length + 1) * 32 ≤ 140737488355328 by unfold maxLen; omega)
      clear hp hcl ho hB hcn
      rcases hb1 : Op.bytesLess p.1 frm with _ | _
      · rcases hemp : List.isEmpty til with _ | _
        · rcases hb2 : Op.bytesLess p.1 til with _ | _
          · have HC := Lib.hid (between_out frm til (pairsO t) k p HP.out (by unfold Isth.below; rw [hemp, hb1, hb2]; rfl))
            go_wp2
            refine ⟨⟨k + 1, by simp, by rw [HN.out]; omega, by rw [HC.out]; exact HO.out, HB.out⟩, ?_⟩
            show n - (Int.toNat ((k : Int) + 1)) < n - Int.toNat (k : Int)
            omega
          · have HC := Lib.hid (between_in frm til (pairsO t) k p HP.out (by unfold Isth.below; rw [hemp, hb1, hb2]; rfl))
            have HR := Lib.hid (Blk_new wr (pairC p) 38).rd0
            have HO2 := Lib.hid (HO.out.alloc (.cells (pairC p).toArray 38))
            have HB2 := Lib.hid (HB.out.alloc HB.out.size (.cells (pairC p).toArray 38))
            go_wp2_with (first
              | (at_builtin; refine wpList_app tPr rfl (.tmp 38) (.tmp 43) rfl _ _ _ (pairsC (between frm til ((pairsO t).take k))) rfl HO2.out _ 1 1 (pairC p) rfl HR.out rfl (by intro u hu; simp [pairC] at hu; rcases hu with rfl | rfl <;> rfl) HML.out.1 HML.out.2 HB2.out.size ?_
                 intro v6 wf ho6 hx6
                 have HF := Lib.hid (And.intro ho6 (HB2.out.grown hx6.grown HB2.out.size (fun q e => (HO2.out.lt q e).1)))
                 clear ho6 hx6))
            refine ⟨⟨k + 1, by simp, by rw [HN.out]; omega, ?_, HF.out.2⟩, ?_⟩
            · rw [HC.out, List.length_append, pairsC_append]; exact HF.out.1
            show n - (Int.toNat ((k : Int) + 1)) < n - Int.toNat (k : Int)
            omega
        · have HC := Lib.hid (between_in frm til (pairsO t) k p HP.out (by unfold Isth.below; rw [hemp, hb1]; rfl))
          have HR := Lib.hid (Blk_new wr (pairC p) 38).rd0
          have HO2 := Lib.hid (HO.out.alloc (.cells (pairC p).toArray 38))
          have HB2 := Lib.hid (HB.out.alloc HB.out.size (.cells (pairC p).toArray 38))
          go_wp2_with (first
            | (at_builtin; refine wpList_app tPr rfl (.tmp 38) (.tmp 43) rfl _ _ _ (pairsC (between frm til ((pairsO t).take k))) rfl HO2.out _ 1 1 (pairC p) rfl HR.out rfl (by intro u hu; simp [pairC] at hu; rcases hu with rfl | rfl <;> rfl) HML.out.1 HML.out.2 HB2.out.size ?_
               intro v6 wf ho6 hx6
               have HF := Lib.hid (And.intro ho6 (HB2.out.grown hx6.grown HB2.out.size (fun q e => (HO2.out.lt q e).1)))
               clear ho6 hx6))
          refine ⟨⟨k + 1, by simp, by rw [HN.out]; omega, ?_, HF.out.2⟩, ?_⟩
          · rw [HC.out, List.length_append, pairsC_append]; exact HF.out.1
          show n - (Int.toNat ((k : Int) + 1)) < n - Int.toNat (k : Int)
          omega
      · have HC := Lib.hid (between_out frm til (pairsO t) k p HP.out (by rw [hb1]; rfl))
        go_wp2
        refine ⟨⟨k + 1, by simp, by rw [HN.out]; omega, by rw [HC.out]; exact HO.out, HB.out⟩, ?_⟩
        show n - (Int.toNat ((k : Int) + 1)) < n - Int.toNat (k : Int)
        omega
    · have hk1 : ¬ (k : Int) < (n : Int) := by omega
      rw [List.take_of_length_le (by rw [HN.out]; exact hkn)] at ho ⊢
      have HRD8 := Lib.hid (show Rd wr A8 (pairsC (rangeO frm til t)) by have h := HRD8.out; rw [List.take_of_length_le (by rw [HN.out]; exact hkn)] at h; exact h)
      have HO := Lib.hid ho
      have HB := Lib.hid hB
      clear ho hB
      go_wp2
      go_ret
      exact ⟨A8, ⟨c8, rfl⟩, HRD8.out, below_then H1.out.2.2 H1.out.2.2.size HB.out⟩
end Go.Proofs.YtdekealpachhmaaDoor

namespace Go.Proofs.YtdekealpachhmaaDoor
open Go Go.RowKit Go.Isth

set_option maxRecDepth 100000 in
set_option maxHeartbeats 2000000 in
theorem rrootO_any (t : Option Av) (cs : List Value) (w : World) (h : RO w t cs) (hm : manyO t ≤ 900000) (hs : SmallP (pairsO t)) :
    Calls Tryd.prog 37 #[.agg cs.toArray] w fun e w' => ∃ cv : List Value, e = .returned (.agg cv.toArray) ∧ cv = (rootO t).map B ∧ cv.length = 32 ∧ Below w.heap.size w w' := by
  cases t with
  | some t => exact rroot_tree t cs w h hm hs
  | none =>
    obtain rfl := h
    unfold emptyC
    obtain ⟨w1, hw1⟩ : ∃ w1, w1 = w.alloc (.cells #[.bool false, S8 [], S8 [], .slice none 0 0] 26) := ⟨_, rfl⟩
    obtain ⟨w2, hw2⟩ : ∃ w2, w2 = w1.alloc (.cells (List.replicate 32 (B 0)).toArray 46) := ⟨_, rfl⟩
    have s1 : w1.heap.size = w.heap.size + 1 := by rw [hw1, World.size_alloc]
    have b1 : Below w.heap.size w w1 := by rw [hw1]; exact (Below.refl _ _).alloc (Nat.le_refl _) _
    have b2 : Below w.heap.size w w2 := by rw [hw2]; exact b1.alloc b1.size _
    have z1 : Blk w2 w.heap.size 26 [.bool false, S8 [], S8 [], .slice none 0 0] := by rw [hw2, hw1]; exact (Blk_new w [.bool false, S8 [], S8 [], .slice none 0 0] 26).alloc _
    have z2 : Blk w2 (w.heap.size + 1) 46 (List.replicate 32 (B 0)) := by rw [← s1, hw2]; exact Blk_new w1 (List.replicate 32 (B 0)) 46
    have H2 := Lib.hid (And.intro b2 z2)
    have e0 := z1.cellD 0 _ rfl
    clear hs hm
    go_enter Tryd.func37, Tryd.ntmps37
    go_upto_region 1 with fail
    change Code.wp _ _ _ _ ((w.alloc (.cells #[.bool false, S8 [], S8 [], .slice none 0 0] 26)).alloc (.cells (List.replicate 32 (B 0)).toArray 46))
    rw [← hw1, ← hw2]
    clear hw1 hw2 s1 b1 b2 z1 z2
    go_wp2_with fail
    refine (rsum_to7 none 0 0 [] _ rfl (Rd.nil _ _) (by omega)).mono ?_
    rintro e w4 ⟨cv, rfl, hcv, hcl, hb⟩
    have H4 := Lib.hid (And.intro (below_then H2.out.1 H2.out.1.size hb) (And.intro (H2.out.2.below hb) (And.intro hcl (And.intro hcv (show ∀ u ∈ cv, u.oneCell' = true by rw [hcv]; exact one_bytes)))))
    clear hcv hcl hb e0
    go_wp2_with (refine wpList_store_blk rfl 46 (.tmp 2) _ rfl (w.heap.size + 1) cv rfl rfl 46 _ H4.out.2.1 (by rw [H4.out.2.2.1]; kernel_rfl) (by rw [H4.out.2.2.1, List.length_replicate]) H4.out.2.2.2.2 ?_; intro w5 hw5 hg5)
    refine bodyPost_ret (results_blk rfl _ _ (w.heap.size + 1) 46 cv _ rfl hw5 Tryd.underlying46 rfl (by rw [H4.out.2.2.1]; kernel_rfl)) rfl ⟨cv, rfl, H4.out.2.2.2.1, H4.out.2.2.1, ?_⟩
    exact H4.out.1.grown hg5 H4.out.1.size (fun q e => by injection e with e; omega)
set_option maxRecDepth 100000 in
theorem rheightO_any (t : Option Av) (cs : List Value) (w : World) (h : RO w t cs) (hm : manyO t ≤ 900000) :
    Calls Tryd.prog 38 #[.agg cs.toArray] w fun e w' => e = .returned (.int .i64 (heightO t : Nat)) ∧ Below w.heap.size w w' := by
  cases t with
  | some t => exact rheight_tree t cs w h hm
  | none =>
    obtain rfl := h
    unfold emptyC
    go_enter Tryd.func38, Tryd.ntmps38
    go_wp2
    go_ret
    exact ⟨rfl, (Below.refl _ _).alloc (Nat.le_refl _) _⟩
set_option maxRecDepth 100000 in
set_option maxHeartbeats 1000000 in
theorem rpath_no (t : Option Av) (i : Int) (cs : List Value) (w : World) (h : RO w t cs) (hm : manyO t ≤ 900000) (hi : i < 0 ∨ (manyO t : Int) ≤ i) :
    Calls Tryd.prog 35 #[.agg cs.toArray, .int .i64 i] w fun e w' => e = .returned (.tuple #[.slice none 0 0, .int .i64 1]) ∧ Below w.heap.size w w' := by
  have hl := h.len
  have hz := Blk_new w cs 26
  have hb0 : Below w.heap.size w (w.alloc (.cells cs.toArray 26)) := (Below.refl _ _).alloc (Nat.le_refl _) _
  have HLD := Lib.hid (ld_tree hz hl)
  have HT := Lib.hid (And.intro (h.below hb0) (And.intro hm hb0))
  have HI := Lib.hid hi
  go_enter Tryd.func35, Tryd.ntmps35
  go_upto_region 1 with fail
  change Code.wp _ _ _ _ (w.alloc (.cells cs.toArray 26))
  generalize w.alloc (.cells cs.toArray 26) = w0 at *
  clear h hm hl hz hb0 hi
  go_wp2_with (refine wpList_load rfl (.tmp 2) rfl ⟨w.heap.size, 0, none⟩ (.agg cs.toArray) rfl HLD.out ?_)
  refine (rpairs_any t cs w0 HT.out.1 HT.out.2.1).mono ?_
  rintro e w1 ⟨A, c, rfl, _, _, hb⟩
  have HB := Lib.hid (below_then HT.out.2.2 HT.out.2.2.size hb)
  clear hb
  by_cases hi0 : i < 0
  · go_wp2
    go_ret2
    exact ⟨rfl, HB.out⟩
  · have hi1 : ((manyO t : Nat) : Int) ≤ i := by have := HI.out; omega
    have hi2 : ¬ i < ((manyO t : Nat) : Int) := by omega
    go_wp2
    go_ret2
    exact ⟨rfl, HB.out⟩
end Go.Proofs.YtdekealpachhmaaDoor

namespace Go.Isth
/-- A step whose number is whatever. -/
structure StepI where
  second : Bool
  many : Int
  other : List UInt8
deriving Inhabited
def toI (s : StepV) : StepI := ⟨s.second, (s.many : Nat), s.other⟩
structure PrfV where
  key : Str
  val : Str
  steps : List StepI
deriving Inhabited
def madeP (t : Av) (i : Nat) : PrfV := ⟨(t.at_ i).1, (t.at_ i).2, (t.path i).map toI⟩
end Go.Isth
namespace Go.Proofs.YtdekealpachhmaaDoor
open Go Go.RowKit Go.Isth

def stepIC (s : StepI) : List Value := .bool s.second :: .int .i64 s.many :: s.other.map B
def stepsIC (l : List StepI) : List Value := l.flatMap stepIC
theorem stepsIC_map (l : List StepV) : stepsIC (l.map toI) = stepsC l := by
  unfold stepsIC stepsC
  rw [List.flatMap_map]
  rfl
/-- A proof's cells. -/
def PrfC (n₀ : Nat) (w : World) (p : PrfV) (cs : List Value) : Prop := ∃ A c, cs = [S8 p.key, S8 p.val, .slice A p.steps.length c] ∧ p.steps.length ≤ c ∧ Rd w A (stepsIC p.steps) ∧ ∀ ad, A = some ad → n₀ ≤ ad.block
theorem PrfC.below {n₀ : Nat} {w w' : World} {p : PrfV} {cs : List Value} (h : PrfC n₀ w p cs) (hb : Below w.heap.size w w') : PrfC n₀ w' p cs := by
  obtain ⟨A, c, e, hc, hr, hn⟩ := h
  exact ⟨A, c, e, hc, hr.below hb, hn⟩
theorem PrfC.mono {n₀ n₁ : Nat} {w : World} {p : PrfV} {cs : List Value} (h : PrfC n₀ w p cs) (hn : n₁ ≤ n₀) : PrfC n₁ w p cs := by
  obtain ⟨A, c, e, hc, hr, h0⟩ := h
  exact ⟨A, c, e, hc, hr, fun ad e => Nat.le_trans hn (h0 ad e)⟩
theorem PrfC.store {n₀ x : Nat} {w w' : World} {p : PrfV} {cs : List Value} (h : PrfC n₀ w p cs) (hg : w.grownBy w' (some x)) (hx : x < n₀) : PrfC n₀ w' p cs := by
  obtain ⟨A, c, e, hc, hr, h0⟩ := h
  exact ⟨A, c, e, hc, hr.grown hg (fun ad e e' => by have := h0 ad e; injection e' with e'; omega), h0⟩
theorem PrfC.len {n₀ : Nat} {w : World} {p : PrfV} {cs : List Value} (h : PrfC n₀ w p cs) : cs.length = 3 := by obtain ⟨_, _, rfl, _⟩ := h; rfl
theorem PrfC.one {n₀ : Nat} {w : World} {p : PrfV} {cs : List Value} (h : PrfC n₀ w p cs) : ∀ u ∈ cs, u.oneCell' = true := by
  obtain ⟨A, c, rfl, _⟩ := h
  intro u hu
  simp only [List.mem_cons, List.not_mem_nil, or_false] at hu
  rcases hu with rfl | rfl | rfl <;> rfl
def noPrf : List Value := [S8 [], S8 [], .slice none 0 0]
theorem noPrf_one : ∀ u ∈ noPrf, u.oneCell' = true := by
  intro u hu
  simp only [noPrf, List.mem_cons, List.not_mem_nil, or_false] at hu
  rcases hu with rfl | rfl | rfl <;> rfl
theorem prf_one (k v : Str) (A : Option Addr) (n c : Nat) : ∀ u ∈ ([S8 k, S8 v, .slice A n c] : List Value), u.oneCell' = true := by
  intro u hu
  simp only [List.mem_cons, List.not_mem_nil, or_false] at hu
  rcases hu with rfl | rfl | rfl <;> rfl
theorem fault8_any (s : ByteArray) (k : Int) (w : World) : Calls Tryd.prog 58 #[.string s, .int .i64 k] w fun e w' => ∃ v, e = .returned v ∧ FaultIs w' v k ∧ Below w.heap.size w w' := by
  go_enter Tryd.func58, Tryd.ntmps58
  go_wp2
  go_ret
  exact ⟨_, rfl, FaultIs.new w _ k, (Below.refl _ _).alloc (Nat.le_refl _) _⟩
set_option maxRecDepth 100000 in
set_option maxHeartbeats 1000000 in
theorem at8_any (t : Av) (g i : Nat) (w : World) (h : TreeAt w t g) (hi : i < t.many) (hm : t.many ≤ 900000) :
    Calls Tryd.prog 59 #[Ptr g, .int .i64 (i : Nat)] w fun e w' => ∃ cs, e = .returned (.tuple #[.agg cs.toArray, .nilIface]) ∧ PrfC w.heap.size w' (madeP t i) cs ∧ Below w.heap.size w w' := by
  have H := Lib.hid (And.intro h (And.intro hi hm))
  clear h hi hm
  obtain ⟨pk, pv, hpp⟩ : ∃ a b, t.at_ i = (a, b) := ⟨_, _, rfl⟩
  have HPP := Lib.hid hpp
  clear hpp
  have hb0 : Below w.heap.size w (w.alloc (.cells noPrf.toArray 32)) := (Below.refl _ _).alloc (Nat.le_refl _) _
  have hz0 := Blk_new w noPrf 32
  go_enter Tryd.func59, Tryd.ntmps59
  go_upto_region 1 with fail
  change Code.wp _ _ _ _ (w.alloc (.cells noPrf.toArray 32))
  generalize w.alloc (.cells noPrf.toArray 32) = w0 at *
  have H0 := Lib.hid (And.intro hb0 hz0)
  clear hb0 hz0
  go_wp2_with fail
  refine (at_any t g i _ (H.out.1.below H0.out.1) H.out.2.1 H.out.2.2).mono ?_
  rintro e w5 ⟨rfl, hb⟩
  rw [HPP.out, show (pairC (pk, pv)).toArray = #[S8 pk, S8 pv] from rfl]
  have HW := Lib.hid (And.intro (below_then H0.out.1 H0.out.1.size hb) (H0.out.2.below hb))
  clear hb
  go_wp2_with fail
  obtain ⟨w6, hw6⟩ : ∃ w6, w6 = w5.alloc (.cells #[S8 pk, S8 pv] 38) := ⟨_, rfl⟩
  obtain ⟨xp, hxp⟩ : ∃ n, n = w5.heap.size := ⟨_, rfl⟩
  have HW0 := Lib.hid HW.out.1.size
  have b6 : Below w5.heap.size w5 w6 := by rw [hw6]; exact (Below.refl _ _).alloc (Nat.le_refl _) _
  have z6 : Blk w6 xp 38 [S8 pk, S8 pv] := by rw [hw6, hxp]; exact Blk_new w5 [S8 pk, S8 pv] 38
  rw [← hw6, ← hxp]
  have HW := Lib.hid (And.intro (below_then HW.out.1 HW.out.1.size b6) (HW.out.2.below b6))
  refine (path_any t g i _ (H.out.1.below HW.out.1) H.out.2.1 H.out.2.2).mono ?_
  rintro e w7 ⟨vp, rfl, ho, hb⟩
  obtain ⟨A', c', rfl, hc', hrd, _, hbl⟩ := own_slice ho
  have c0 := cell_below (z6.cellD 0 _ rfl) hb
  have c1 := cell_below (z6.cellD 1 _ rfl) hb
  have HW := Lib.hid (And.intro (below_then HW.out.1 HW.out.1.size hb) (HW.out.2.below hb))
  have HR := Lib.hid (And.intro hc' (And.intro hrd (show ∀ ad, A' = some ad → w.heap.size < ad.block from fun ad e => by have h1 := (hbl ad e).1; have h2 := z6.lt; have h3 : w.heap.size ≤ xp := (by rw [hxp]; exact HW0.out); omega)))
  obtain ⟨n, hn⟩ : ∃ n, (t.path i).length = n := ⟨_, rfl⟩
  rw [hn]
  have HN := Lib.hid hn
  clear hw6 hxp b6 z6 ho hb hc' hrd hn hbl
  go_wp2_with (refine wpList_store_blk rfl 32 (.tmp 4) _ rfl w.heap.size [S8 pk, S8 pv, .slice A' n c'] rfl rfl 32 _ HW.out.2 (by kernel_rfl) rfl (prf_one pk pv A' n c') ?_; intro w8 hw8 hg8)
  refine bodyPost_ret (results_blk2 rfl _ _ w.heap.size 32 [S8 pk, S8 pv, .slice A' n c'] _ rfl hw8 Tryd.underlying32 rfl (by kernel_rfl)) rfl ⟨_, rfl, ?_, ?_⟩
  · have hb8 : Below w.heap.size w w8 := HW.out.1.grown hg8 HW.out.1.size (fun q e => by injection e with e; omega)
    have hl : (madeP t i).steps.length = n := by rw [← HN.out]; simp [madeP]
    refine ⟨A', c', ?_, ?_, ?_, fun ad e => Nat.le_of_lt (HR.out.2.2 ad e)⟩
    · rw [hl]
      simp only [madeP, HPP.out]
    · rw [hl, ← HN.out]; exact HR.out.1
    · rw [show (madeP t i).steps = (t.path i).map toI from rfl, stepsIC_map]
      exact HR.out.2.1.grown hg8 (fun ad e e' => by have := HR.out.2.2 ad e; injection e' with e'; omega)
  · exact HW.out.1.grown hg8 HW.out.1.size (fun q e => by injection e with e; omega)
end Go.Proofs.YtdekealpachhmaaDoor

namespace Go.Proofs.YtdekealpachhmaaDoor
open Go Go.RowKit Go.Isth

theorem part_hash (pre : List Value) (os : List UInt8) (hl : os.length = 32) (k : Nat) (hk : pre.length = k) (w : World) : (part 46 (pre ++ os.map B).toArray k).run Tryd.prog w = .ok (.agg (os.map B).toArray) w := by
  have hi : (Tryd.prog.info? 46).map (·.size) = some 32 := by kernel_rfl
  have hc : Tryd.prog.cellsOf 46 = 32 := by kernel_rfl
  obtain ⟨i, hi1, _⟩ := Option.map_eq_some_iff.1 hi
  have ha : (isAgg 46).run Tryd.prog w = .ok true w := by simp [isAgg, run_underlying Tryd.underlying46]
  subst hk
  simp only [part, Sem.run_bind, ha, Result.andThen_ok, if_true, run_sizeOf w hi1]
  simp [hc, List.take_of_length_le, hl]
theorem eq_hash (d : Nat) (os : List UInt8) (hl : os.length = 32) (w : World) : (Op.equalIn (d + 2) 46 (.agg (os.map B).toArray) (.agg (os.map B).toArray)).run Tryd.prog w = .ok true w := by
  obtain ⟨i, hi, _⟩ := Option.map_eq_some_iff.1 aHash7.info
  rw [run_equalIn_array w (d + 1) _ _ aHash7.arr hi, aHash7.one, run_items w aHash7.key aHash7.elem d os os _ (fun j hj => by rw [List.mem_range] at hj; omega), all_getD hl hl]
  simp
set_option maxRecDepth 100000 in
theorem neq_step (s : StepI) (hl : s.other.length = 32) (w : World) : (binOp .neq 67 (.agg (stepIC s).toArray) (.agg (stepIC s).toArray)).run Tryd.prog w = .ok (.bool false) w := by
  have hu := Tryd.underlying67
  have hf : Tryd.prog.underlying 67 = some (.struct (Tryd.prog.fieldsOf 67)) := by simp only [Program.fieldsOf, hu]
  have hs : Tryd.prog.stoodInHeld 67 = false := by kernel_rfl
  have p1 : ∀ w, (part 4 (stepIC s).toArray 0).run Tryd.prog w = .ok (.bool s.second) w := fun w => run_part_plain (P := Tryd.prog) w (by kernel_rfl) rfl
  have p2 : ∀ w, (part 3 (stepIC s).toArray 1).run Tryd.prog w = .ok (.int .i64 s.many) w := fun w => run_part_plain (P := Tryd.prog) w (by kernel_rfl) rfl
  have p3 : ∀ w, (part 46 (stepIC s).toArray 2).run Tryd.prog w = .ok (.agg (s.other.map B).toArray) w := fun w => part_hash [.bool s.second, .int .i64 s.many] s.other hl 2 rfl w
  have q1 : ∀ w, (Op.equalIn 9999 4 (.bool s.second) (.bool s.second)).run Tryd.prog w = .ok true w := fun w => by rw [run_equalIn_bool' w 9998 _ _ _ Tryd.underlying4]; simp
  have q2 : ∀ w, (Op.equalIn 9999 3 (.int .i64 s.many) (.int .i64 s.many)).run Tryd.prog w = .ok true w := fun w => by rw [run_equalIn_int w 9998 _ _ _ _ _ Tryd.underlying3]; simp
  have q3 : ∀ w, (Op.equalIn 9999 46 (.agg (s.other.map B).toArray) (.agg (s.other.map B).toArray)).run Tryd.prog w = .ok true w := fun w => eq_hash 9997 s.other hl w
  rw [run_neq_struct, run_equalIn_struct w 9999 _ _ _ hf hs]
  simp only [Program.fieldsOf, hu]
  simp [Op.eqFields, p1, p2, p3, q1, q2, q3]
#print axioms neq_step
end Go.Proofs.YtdekealpachhmaaDoor

namespace Go.Proofs.YtdekealpachhmaaDoor
open Go Go.RowKit Go.Isth Go.Extern.Stop Go.Stop Go.Extern
abbrev TH (t : TypeId) : Value := .pointer (some ⟨2, t, none⟩)
abbrev VP (a : Addr) : Value := .agg #[TH 129, .pointer (some a), .int .u64 150]

theorem as_nil (t : Value) (w : World) : Calls Tryd.prog 62 #[.nilIface, t] w fun e w' => e = .returned (.bool false) ∧ w' = w := by
  go_enter Tryd.func62, Tryd.ntmps62
  go_wp2
  go_ret
  exact ⟨rfl, rfl⟩

theorem asValueOfP (t : Addr) (w : World) : (ReflectliteValue.unpack (.iface 129 (.pointer (some t)))).run Tryd.prog w = .ok (VP ⟨w.heap.size, 0, none⟩) (w.alloc (.cells #[.pointer (some t)] 129)) := by kernel_rfl
theorem asTypeP (a : Addr) (w : World) : (ReflectliteValue.methodAny (ReflectliteValue.valueError "reflectlite.Value.Type" 0) (fun t _ _ _ => ReflectliteType.toType t) #[VP a]).run Tryd.prog w = .ok (.iface 194 (.agg #[TH 129])) w := by kernel_rfl
theorem asMethodKind (h : Value) (w : World) : (Go.method 334 194 (.agg #[h]) "Kind").run Tryd.prog w = .ok (119, h) w := by kernel_rfl
theorem asKindP (w : World) : ((ReflectliteType.abiMethod fun t => (fun a : Nat => Value.int IntKind.u8 (a : Int)) <$> Rtype.kind t) #[TH 129]).run Tryd.prog w = .ok (.int .u8 22) w := by kernel_rfl
theorem asKindE (w : World) : ((ReflectliteType.abiMethod fun t => (fun a : Nat => Value.int IntKind.u8 (a : Int)) <$> Rtype.kind t) #[TH 119]).run Tryd.prog w = .ok (.int .u8 2) w := by kernel_rfl
theorem asRlm (z : Sem Value) (f : TypeId → Addr → Nat → Nat → Sem Value) (v : Value) :
    ReflectliteValue.method z f #[v] = (do match ← ReflectliteValue.parts v with | none => z | some (t, a, fl) => f t a fl (fl % 32)) := rfl
theorem asPartsP (a : Addr) (w : World) : (ReflectliteValue.parts (VP a)).run Tryd.prog w = .ok (some (129, a, 150)) w := by kernel_rfl
theorem asIsNilP (a p : Addr) (W : World) (ha : W.cell? a = some (.pointer (some p))) :
    (ReflectliteValue.method (ReflectliteValue.valueError "reflectlite.Value.IsNil" 0) ReflectliteValue.isNil #[VP a]).run Tryd.prog W = .ok (.bool false) W := by
  rw [asRlm]
  simp only [Sem.run_bind, asPartsP, Result.andThen]
  simp [ReflectliteValue.isNil, loadVar, isAgg, underlying, Tryd.underlying129, ha, Result.andThen]
theorem asMethodElem (h : Value) (w : World) : (Go.method 334 194 (.agg #[h]) "Elem").run Tryd.prog w = .ok (131, .agg #[h]) w := by kernel_rfl
theorem asMethodImplements (h : Value) (w : World) : (Go.method 334 194 (.agg #[h]) "Implements").run Tryd.prog w = .ok (132, .agg #[h]) w := by kernel_rfl
theorem asMethodAssignable (h : Value) (w : World) : (Go.method 334 194 (.agg #[h]) "AssignableTo").run Tryd.prog w = .ok (129, .agg #[h]) w := by kernel_rfl
theorem asElemP (w : World) : (ReflectliteType.method ReflectliteType.elem #[.agg #[TH 129]]).run Tryd.prog w = .ok (.iface 194 (.agg #[TH 119])) w := by kernel_rfl
theorem asImplE (w : World) : (ReflectliteType.relation "Implements" ReflectliteType.implements_ #[.agg #[TH 119], .iface 194 (.agg #[TH 34])]).run Tryd.prog w = .ok (.bool true) w := by kernel_rfl
theorem asTypeOfF (v : Value) (w : World) : (ReflectliteType.typeOf #[.iface 147 v]).run Tryd.prog w = .ok (.iface 194 (.agg #[TH 147])) w := by kernel_rfl
theorem asTypeOfE (v : Value) (w : World) : (ReflectliteType.typeOf #[.iface 119 v]).run Tryd.prog w = .ok (.iface 194 (.agg #[TH 119])) w := by kernel_rfl
theorem asAssignE (w : World) : (ReflectliteType.relation "AssignableTo" ReflectliteType.assignableTo #[.agg #[TH 119], .iface 194 (.agg #[TH 119])]).run Tryd.prog w = .ok (.bool true) w := by kernel_rfl
theorem asAssignF (w : World) : (ReflectliteType.relation "AssignableTo" ReflectliteType.assignableTo #[.agg #[TH 147], .iface 194 (.agg #[TH 119])]).run Tryd.prog w = .ok (.bool false) w := by kernel_rfl
theorem asValueOfE (k : Int) (w : World) : (ReflectliteValue.unpack (.iface 119 (.int .i64 k))).run Tryd.prog w = .ok (.agg #[TH 119, .pointer (some ⟨w.heap.size, 0, none⟩), .int .u64 130]) (w.alloc (.cells #[.int .i64 k] 119)) := by kernel_rfl
theorem asElemOfP (w : World) : (Rtype.elem? 129).run Tryd.prog w = .ok (some 119) w := by kernel_rfl
theorem asMkE (p : Addr) (w : World) : (ReflectliteValue.mk 119 p ReflectliteValue.flagAddr).run Tryd.prog w = .ok (.agg #[TH 119, .pointer (some p), .int .u64 386]) w := by kernel_rfl
theorem asElemVP (a p : Addr) (W : World) (ha : W.cell? a = some (.pointer (some p))) :
    (ReflectliteValue.method (ReflectliteValue.valueError "reflectlite.Value.Elem" 0) ReflectliteValue.elem #[VP a]).run Tryd.prog W = .ok (.agg #[TH 119, .pointer (some p), .int .u64 386]) W := by
  rw [asRlm]
  simp only [Sem.run_bind, asPartsP, Result.andThen]
  simp [ReflectliteValue.elem, loadVar, isAgg, underlying, Tryd.underlying129, ha, Result.andThen, asElemOfP, asMkE]
theorem asRls (v x : Value) : ReflectliteValue.set #[v, x] = (do
    let (some (dst, a, fl), some (src, b, _)) := (← ReflectliteValue.parts v, ← ReflectliteValue.parts x)
      | unsupported (.noEntry "extern/(internal/reflectlite.Value).Set.zeroValue")
    if fl / ReflectliteValue.flagAddr % 2 == 0 then unsupported (.noEntry "extern/(internal/reflectlite.Value).Set.unaddressable")
    let val ← loadVar src b
    if ← Rtype.directlyAssignable dst src then storeVar dst a val
    else if ← Rtype.implements dst src then
      if (← Rtype.kind src) == 20 then
        match val with
        | .nilIface => unsupported (.noEntry "extern/reflectlite: a nil value of one interface type handed on as a value of another")
        | _ => storeVar dst a val
      else storeVar dst a (.iface src val)
    else panicString ("reflectlite.Set: value of type " ++ (← Rtype.spelt src) ++ " is not assignable to type " ++ (← Rtype.spelt dst))
    pure (.tuple #[])) := rfl
theorem asPartsEa (a : Addr) (w : World) : (ReflectliteValue.parts (.agg #[TH 119, .pointer (some a), .int .u64 386])).run Tryd.prog w = .ok (some (119, a, 386)) w := by kernel_rfl
theorem asPartsE (a : Addr) (w : World) : (ReflectliteValue.parts (.agg #[TH 119, .pointer (some a), .int .u64 130])).run Tryd.prog w = .ok (some (119, a, 130)) w := by kernel_rfl
theorem asDirectE (w : World) : (Rtype.directlyAssignable 119 119).run Tryd.prog w = .ok true w := by kernel_rfl
theorem asSizeE (w : World) : (sizeOf 119).run Tryd.prog w = .ok 1 w := by kernel_rfl
theorem asSetE (ta b : Addr) (k : Int) (old : Value) (W : World) (hb : W.cell? b = some (.int .i64 k)) (ht : W.cell? ta = some old) (hf : W.frozen? ta = false) :
    (ReflectliteValue.set #[.agg #[TH 119, .pointer (some ta), .int .u64 386], .agg #[TH 119, .pointer (some b), .int .u64 130]]).run Tryd.prog W = .ok (.tuple #[]) (W.setCell ta (.int .i64 k)) := by
  rw [asRls]
  simp only [Sem.run_bind, asPartsEa, asPartsE, Result.andThen]
  simp [ReflectliteValue.flagAddr, loadVar, isAgg, underlying, Tryd.underlying119, hb, Result.andThen, asDirectE, storeVar, Value.cells, storeCells, Addr.add]
  rw [run_store Tryd.prog W ta _ _ (by rfl)]
  simp [ht, hf]

theorem asNoAsF (v : Value) (xT : TypeId) (w : World) : (Instr.typeAssert (.iface 147 v) xT 199 true).run Tryd.prog w = .ok (.tuple #[.nilIface, .bool false]) w := run_typeAssert_lacksB Tryd.underlying199 (by kernel_rfl) (by kernel_rfl) v xT w
theorem asUnwrapF (v : Value) (xT : TypeId) (w : World) : (Instr.typeAssert (.iface 147 v) xT 202 true).run Tryd.prog w = .ok (.tuple #[.iface 147 v, .bool true]) w := run_typeAssert_hasB Tryd.underlying202 (by kernel_rfl) v xT w
theorem asMethodUnwrap (v : Value) (w : World) : (Go.method 334 147 v "Unwrap").run Tryd.prog w = .ok (124, v) w := by kernel_rfl

abbrev V3 (w : World) : Array Value := #[TH 129, .pointer (some ⟨w.heap.size, 0, none⟩), .int .u64 150]
abbrev A1 (w : World) (t : Addr) : World := w.alloc (.cells #[.pointer (some t)] 129)
abbrev A2 (w : World) (t : Addr) : World := (A1 w t).alloc (.cells (V3 w) 172)
abbrev A3 (w : World) (t : Addr) : World := (A2 w t).alloc (.cells (V3 w) 172)
abbrev A4 (w : World) (t : Addr) (k : Int) : World := (A3 w t).alloc (.cells #[.int .i64 k] 119)

set_option maxHeartbeats 4000000 in
theorem as_fault (b : Nat) (s : ByteArray) (k : Int) (t : Addr) (old : Value) (w : World) (hc : w.heap[b]? = some (.cells #[.string s, .iface 119 (.int .i64 k)] 149 (0, 0)))
    (hg : w.cell? ⟨0, 0, none⟩ = some (.iface 194 (.agg #[TH 34]))) (ht0 : w.cell? t = some old) (hf0 : w.frozen? t = false) :
    Calls Tryd.prog 62 #[.iface 147 (.pointer (some ⟨b, 0, none⟩)), .iface 129 (.pointer (some t))] w fun ev w' => ev = .returned (.bool true) ∧ w' = (A4 w t k).setCell t (.int .i64 k) := by
  have h0 : w.cell? ⟨b, 0, none⟩ = some (.string s) := cell_of_row w b 0 _ _ _ hc
  have h1 : w.cell? ⟨b, 1, none⟩ = some (.iface 119 (.int .i64 k)) := cell_of_row w b 1 _ _ _ hc
  have hbl : b < w.heap.size := (Array.getElem?_eq_some_iff.1 hc).1
  have hV := @run_callFunc_extern Tryd.prog 92 _ (fun args => ReflectliteValue.unpack (args.getD 0 (.tuple #[]))) Tryd.func92 (by kernel_rfl) (by kernel_rfl) (by kernel_rfl) (by kernel_rfl)
  have hT := @run_callFunc_extern Tryd.prog 93 _ (ReflectliteValue.methodAny (ReflectliteValue.valueError "reflectlite.Value.Type" 0) (fun t _ _ _ => ReflectliteType.toType t)) Tryd.func93 (by kernel_rfl) (by kernel_rfl) (by kernel_rfl) (by kernel_rfl)
  have hI := @run_callFunc_extern Tryd.prog 94 _ (ReflectliteValue.method (ReflectliteValue.valueError "reflectlite.Value.IsNil" 0) ReflectliteValue.isNil) Tryd.func94 (by kernel_rfl) (by kernel_rfl) (by kernel_rfl) (by kernel_rfl)
  have hK := @run_callFunc_extern Tryd.prog 119 _ (ReflectliteType.abiMethod fun t => do pure (.int .u8 (← Rtype.kind t))) Tryd.func119 (by kernel_rfl) (by kernel_rfl) (by kernel_rfl) (by kernel_rfl)
  have hE := @run_callFunc_extern Tryd.prog 131 _ (ReflectliteType.method ReflectliteType.elem) Tryd.func131 (by kernel_rfl) (by kernel_rfl) (by kernel_rfl) (by kernel_rfl)
  have hM := @run_callFunc_extern Tryd.prog 132 _ (ReflectliteType.relation "Implements" ReflectliteType.implements_) Tryd.func132 (by kernel_rfl) (by kernel_rfl) (by kernel_rfl) (by kernel_rfl)
  have hO := @run_callFunc_extern Tryd.prog 102 _ ReflectliteType.typeOf Tryd.func102 (by kernel_rfl) (by kernel_rfl) (by kernel_rfl) (by kernel_rfl)
  have hA := @run_callFunc_extern Tryd.prog 129 _ (ReflectliteType.relation "AssignableTo" ReflectliteType.assignableTo) Tryd.func129 (by kernel_rfl) (by kernel_rfl) (by kernel_rfl) (by kernel_rfl)
  have hL := @run_callFunc_extern Tryd.prog 103 _ (ReflectliteValue.method (ReflectliteValue.valueError "reflectlite.Value.Elem" 0) ReflectliteValue.elem) Tryd.func103 (by kernel_rfl) (by kernel_rfl) (by kernel_rfl) (by kernel_rfl)
  have hS := @run_callFunc_extern Tryd.prog 104 _ ReflectliteValue.set Tryd.func104 (by kernel_rfl) (by kernel_rfl) (by kernel_rfl) (by kernel_rfl)
  have q1 := asTypeOfF
  have q2 := asTypeOfE
  have q3 := asMethodAssignable
  have q4 := asAssignE
  have q5 := asAssignF
  have q6 := asValueOfE k
  have q7 := asValueOfP
  have q8 := asTypeP
  have q9 := asMethodKind
  have qa := asMethodElem
  have qb := asMethodImplements
  have qc := asKindP
  have qd := asKindE
  have qe := asElemP
  have qf := asImplE
  have qg := asNoAsF
  have qh := asUnwrapF
  have qi := asMethodUnwrap
  have htl : t.block < w.heap.size := by
    rcases Nat.lt_or_ge t.block w.heap.size with h | h
    · exact h
    · simp [World.cell?, Array.getElem?_eq_none h] at ht0
  have hgl : 0 < w.heap.size := by
    rcases Nat.lt_or_ge 0 w.heap.size with h | h
    · exact h
    · simp [World.cell?, Array.getElem?_eq_none h] at hg
  have b1 : Below w.heap.size w (A1 w t) := (Below.refl _ _).alloc (Nat.le_refl _) _
  have b2 : Below w.heap.size w (A2 w t) := b1.alloc (by rw [World.size_alloc]; omega) _
  have b3 : Below w.heap.size w (A3 w t) := b2.alloc b2.size _
  have b4 : Below w.heap.size w (A4 w t k) := b3.alloc b3.size _
  have hg2 := (b2.cell (p := ⟨0, 0, none⟩) hgl).trans hg
  have hb0 := (b3.cell (p := ⟨b, 0, none⟩) hbl).trans h0
  have hb1 := (b3.cell (p := ⟨b, 1, none⟩) hbl).trans h1
  have n8 := asIsNilP ⟨w.heap.size, 0, none⟩ t (A2 w t) (by rw [World.cell?_alloc_lt _ _ ⟨w.heap.size, 0, none⟩ (by simp)]; simp)
  have el := asElemVP ⟨w.heap.size, 0, none⟩ t (A3 w t) (by rw [World.cell?_alloc_lt _ _ ⟨w.heap.size, 0, none⟩ (by simp; omega), World.cell?_alloc_lt _ _ ⟨w.heap.size, 0, none⟩ (by simp)]; simp)
  have st := asSetE t ⟨w.heap.size + 1 + 1 + 1, 0, none⟩ k old (A4 w t k) (by rw [World.cell?_alloc_at _ _ _ _ (by simp)]; rfl) ((b4.cell htl).trans ht0) ((b4.frozen htl).trans hf0)
  clear hc hbl htl hgl b1 b2 b3 b4 h0 h1
  go_enter Tryd.func62, Tryd.ntmps62
  go_wp2
  refine wp_loop_rounds 2 ?_
  rw [rounds_succ]
  go_wp2
  rw [rounds_succ]
  go_wp2
  go_ret
  exact ⟨rfl, rfl⟩
#print axioms as_fault
end Go.Proofs.YtdekealpachhmaaDoor

namespace Go.Proofs.YtdekealpachhmaaDoor
open Go Go.RowKit Go.Isth Go.Extern.Stop Go.Stop Go.Extern

/-- The variable errors.errorType as it is laid. -/
def TypeLaid (w : World) : Prop := w.cell? ⟨0, 0, none⟩ = some (.iface 194 (.agg #[TH 34]))
theorem TypeLaid.lt {w : World} (h : TypeLaid w) : 0 < w.heap.size := World.block_lt_of_cell? w _ h
theorem TypeLaid.below {w w' : World} (h : TypeLaid w) {B : Nat} (hb : Below B w w') (hB : 0 < B) : TypeLaid w' := (hb.cell (p := ⟨0, 0, none⟩) hB).trans h

theorem as_new (b : Nat) (s : ByteArray) (k : Int) (w : World) (hc : w.heap[b]? = some (.cells #[.string s, .iface 119 (.int .i64 k)] 149 (0, 0))) (hg : TypeLaid w) :
    Calls Tryd.prog 62 #[.iface 147 (.pointer (some ⟨b, 0, none⟩)), .iface 129 (.pointer (some ⟨w.heap.size, 0, none⟩))] (w.alloc (.cells #[.int .i64 0] 119)) fun ev w' => ev = .returned (.bool true) ∧ w'.cell? ⟨w.heap.size, 0, none⟩ = some (.int .i64 k) ∧ Below w.heap.size w w' := by
  have hb1 : Below w.heap.size w (w.alloc (.cells #[.int .i64 0] 119)) := (Below.refl _ _).alloc (Nat.le_refl _) _
  refine (as_fault b s k ⟨w.heap.size, 0, none⟩ (.int .i64 0) (w.alloc (.cells #[.int .i64 0] 119)) ((hb1.block b (Array.getElem?_eq_some_iff.1 hc).1).trans hc) (hg.below hb1 hg.lt) (by simp) (by simp)).mono ?_
  rintro e w2 ⟨rfl, rfl⟩
  have hx : Boxed (w.alloc (.cells #[.int .i64 0] 119)) w.heap.size 119 (.int .i64 0) := Boxed.new _ _ _
  generalize w.alloc (.cells #[.int .i64 0] 119) = w1 at *
  have b1 : Below w1.heap.size w1 (A1 w1 ⟨w.heap.size, 0, none⟩) := (Below.refl _ _).alloc (Nat.le_refl _) _
  have b2 : Below w1.heap.size w1 (A2 w1 ⟨w.heap.size, 0, none⟩) := b1.alloc b1.size _
  have b3 : Below w1.heap.size w1 (A3 w1 ⟨w.heap.size, 0, none⟩) := b2.alloc b2.size _
  have b4 : Below w1.heap.size w1 (A4 w1 ⟨w.heap.size, 0, none⟩ k) := b3.alloc b3.size _
  have hy : Boxed (A4 w1 ⟨w.heap.size, 0, none⟩ k) w.heap.size 119 (.int .i64 0) := (b4.block _ hx.lt).trans hx
  exact ⟨rfl, (hy.set (.int .i64 k)).cell, (hb1.trans (b4.mono hb1.size)).setCell (p := ⟨w.heap.size, 0, none⟩) (Nat.le_refl _) _⟩

theorem num08_nil (w : World) : Calls Tryd.prog 17 #[.nilIface] w fun e w' => e = .returned (.int .i64 0) ∧ Below w.heap.size w w' := by
  go_enter Tryd.func17, Tryd.ntmps17
  go_wp2
  go_ret
  exact ⟨rfl, (Below.refl _ _).alloc (Nat.le_refl _) _⟩
theorem num08_any (v : Value) (k : Int) (w : World) (h : FaultIs w v k) (hg : TypeLaid w) : Calls Tryd.prog 17 #[v] w fun e w' => e = .returned (.int .i64 k) ∧ Below w.heap.size w w' := by
  obtain ⟨b, s, rfl, hc⟩ := h
  have hcall := as_new b s k w hc hg
  clear hc hg
  go_enter Tryd.func17, Tryd.ntmps17
  go_wp2_with fail
  refine hcall.mono ?_
  rintro e w2 ⟨rfl, hcell, hb⟩
  have HB := Lib.hid hb
  clear hcall hb
  go_wp2
  go_ret
  exact ⟨rfl, HB.out⟩
theorem num07_nil (w : World) : Calls Tryd.prog 36 #[.nilIface] w fun e w' => e = .returned (.int .i64 0) ∧ Below w.heap.size w w' := by
  go_enter Tryd.func36, Tryd.ntmps36
  go_wp2
  go_ret
  exact ⟨rfl, (Below.refl _ _).alloc (Nat.le_refl _) _⟩
theorem num07_any (v : Value) (k : Int) (w : World) (h : FaultIs w v k) (hg : TypeLaid w) : Calls Tryd.prog 36 #[v] w fun e w' => e = .returned (.int .i64 k) ∧ Below w.heap.size w w' := by
  obtain ⟨b, s, rfl, hc⟩ := h
  have hcall := as_new b s k w hc hg
  clear hc hg
  go_enter Tryd.func36, Tryd.ntmps36
  go_wp2_with fail
  refine hcall.mono ?_
  rintro e w2 ⟨rfl, hcell, hb⟩
  have HB := Lib.hid hb
  clear hcall hb
  go_wp2
  go_ret
  exact ⟨rfl, HB.out⟩
end Go.Proofs.YtdekealpachhmaaDoor

namespace Go.Proofs.YtdekealpachhmaaDoor
open Go Go.RowKit Go.Isth

def SamePInv (w : World) (n : Nat) (i : Value) (wr : World) : Prop := ∃ k : Nat, i = .int .i64 (k : Nat) ∧ k ≤ n ∧ Below w.heap.size w wr
set_option maxRecDepth 100000 in
set_option maxHeartbeats 1000000 in
theorem pairs_same (A A' : Option Addr) (c c' n : Nat) (l : List (Str × Str)) (w : World) (hn : n = l.length) (hm : n ≤ 900000) (hr : Rd w A (pairsC l)) (hr' : Rd w A' (pairsC l)) :
    Calls Tryd.prog 32 #[.slice A n c, .slice A' n c'] w fun e w' => e = .returned (.bool true) ∧ Below w.heap.size w w' := by
  have HT := Lib.hid (And.intro hn (And.intro hm (And.intro hr hr')))
  clear hn hm hr hr'
  go_enter Tryd.func32, Tryd.ntmps32
  go_wp2_with fail
  go_loopw [5] (fun i wr => SamePInv w n i wr) (fun i _ => n - (intOf i).toNat)
  case atStart => exact ⟨0, rfl, Nat.zero_le _, Below.refl _ _⟩
  case round =>
    obtain ⟨k, rfl, hk, hb⟩ := hrel
    have HB := Lib.hid hb
    rcases Nat.lt_or_ge k n with hkn | hkn
    · obtain ⟨p, hp⟩ : ∃ p, l[k]? = some p := ⟨_, List.getElem?_eq_getElem (by rw [← HT.out.1]; exact hkn)⟩
      have hl0 : 0 < (pairsC l).length := by rw [pairsC_len]; have := HT.out.1; omega
      obtain ⟨b, o, rfl, hcl⟩ := HT.out.2.2.1 hl0
      obtain ⟨b', o', rfl, hcl'⟩ := HT.out.2.2.2 hl0
      have e1 := cell_below (hcl _ _ (pairsC_cells _ _ _ hp).1) hb
      have e2 := cell_below (hcl _ _ (pairsC_cells _ _ _ hp).2) hb
      have e3 := cell_below (hcl' _ _ (pairsC_cells _ _ _ hp).1) hb
      have e4 := cell_below (hcl' _ _ (pairsC_cells _ _ _ hp).2) hb
      rw [← Nat.add_assoc] at e2 e4
      have hk1 : (k : Int) < (n : Int) := by omega
      have hm9 := HT.out.2.1
      clear hp hcl hcl' hl0 hb
      go_upto_region 6 with fail
      go_quiet (fail)
      go_wp2
      refine ⟨⟨k + 1, by simp, by omega, below_drewN HB.out _⟩, ?_⟩
      show n - Int.toNat ((k : Int) + 1) < n - Int.toNat (k : Int)
      omega
    · have hk1 : ¬ (k : Int) < (n : Int) := by omega
      clear hb
      go_wp2
      go_ret
      exact ⟨rfl, HB.out⟩
end Go.Proofs.YtdekealpachhmaaDoor

namespace Go.Isth
open Go Go.RowKit
theorem wpList_load_g {P : Program} {w : World} {ops : Array Oper} {rest : List Oper} {o : Oper} {a : Act} {Q : Exit → Act → World → Prop} {t : TypeId} {j d : Nat} {want : Bool}
    (hgd : o.guard = some (j, want)) (hd : (ops[j]?).bind (·.dst) = some d) (hv : a.tmps[d]? = some (.bool want)) (x : Operand) (ho : o.op = .load t x) (A : Addr) (v : Value) (hx : a.eval x = .pointer (some A)) (hl : (loadVar t A).run P w = .ok v w)
    (h : wpList P ops Q rest (a.put o.dst v) w) : wpList P ops Q (o :: rest) a w := by
  refine wpList_step fun K hK => ?_
  have hw : Region.wanted o (yielded ops a.tmps) = true := by simp [Region.wanted, hgd, yielded, hd, hv]
  rw [if_pos hw]
  unfold Oper.wp execOp
  simp [ho, hx, Instr.loadAt, Instr.sureAddr, hl, Oper.upon]
  exact hK _ _ h
def inI (t : Option Av) (i : Int) : Prop := 0 ≤ i ∧ i < (manyO t : Int)
instance (t : Option Av) (i : Int) : Decidable (inI t i) := inferInstanceAs (Decidable (_ ∧ _))
def atP (t : Option Av) (i : Int) : Str × Str := if inI t i then ((pairsO t)[i.toNat]?).getD ([], []) else ([], [])
def atK (t : Option Av) (i : Int) : Nat := if inI t i then 0 else 1
def pathI (t : Option Av) (i : Int) : List StepV := if inI t i then (match t with | some t => t.path i.toNat | none => []) else []
theorem pathI_steps (t : Option Av) (i : Int) : ∀ s ∈ pathI t i, s.other.length = 32 := by
  intro s hs
  unfold pathI at hs
  split at hs
  · cases t with
    | none => cases hs
    | some t => exact path_other t _ s hs
  · cases hs
end Go.Isth
namespace Go.Proofs.YtdekealpachhmaaDoor
open Go Go.RowKit Go.Isth

def ErrN (w : World) (v : Value) (k : Nat) : Prop := (k = 0 ∧ v = .nilIface) ∨ FaultIs w v (k : Nat)
theorem ErrN.below {w w' : World} {v : Value} {k : Nat} (h : ErrN w v k) (hb : Below w.heap.size w w') : ErrN w' v k := by
  rcases h with h | h
  · exact .inl h
  · exact .inr (h.below hb)
theorem num07_to (v : Value) (k : Nat) (w : World) (h : ErrN w v k) (hg : TypeLaid w) : Calls Tryd.prog 36 #[v] w fun e w' => e = .returned (.int .i64 (k : Nat)) ∧ Below w.heap.size w w' := by
  rcases h with ⟨rfl, rfl⟩ | h
  · exact num07_nil w
  · exact num07_any v k w h hg
set_option maxRecDepth 100000 in
theorem neq_stepV (s : StepV) (hl : s.other.length = 32) (w : World) : (binOp .neq 67 (.agg (stepC s).toArray) (.agg (stepC s).toArray)).run Tryd.prog w = .ok (.bool false) w :=
  neq_step ⟨s.second, s.many, s.other⟩ hl w
theorem pathI_len (t : Option Av) (i : Int) : (pathI t i).length ≤ manyO t := by
  unfold pathI
  split
  · cases t with
    | none => exact Nat.le_refl _
    | some t => exact path_len_le t _
  · exact Nat.zero_le _
theorem not_in {t : Option Av} {i : Int} (h : ¬ inI t i) : i < 0 ∨ (manyO t : Int) ≤ i := by
  unfold inI at h
  omega
theorem at_all (t : Option Av) (v : Value) (i : Int) (w : World) (h : TreeO w t v) (hm : manyO t ≤ 900000) :
    Calls Tryd.prog 26 #[v, .int .i64 i] w fun e w' => ∃ ev, e = .returned (.tuple #[.agg (pairC (atP t i)).toArray, ev]) ∧ ErrN w' ev (atK t i) ∧ Below w.heap.size w w' := by
  by_cases hi : inI t i
  · cases t with
    | none => exfalso; unfold inI at hi; simp only [manyO] at hi; omega
    | some t =>
      obtain ⟨g, rfl, ht⟩ := h
      obtain ⟨k, rfl⟩ : ∃ k : Nat, i = (k : Nat) := ⟨i.toNat, by unfold inI at hi; omega⟩
      have hk : k < t.many := by unfold inI at hi; simp only [manyO] at hi; omega
      refine (at_any t g k w ht hk hm).mono ?_
      rintro e w' ⟨rfl, hb⟩
      have e1 : atP (some t) (k : Int) = t.at_ k := by unfold atP; rw [if_pos hi]; simp only [pairsO, Int.toNat_natCast, t.at_pairs k hk, Option.getD_some]
      have e2 : atK (some t) (k : Int) = 0 := by unfold atK; rw [if_pos hi]
      rw [e1, e2]
      exact ⟨_, rfl, .inl ⟨rfl, rfl⟩, hb⟩
  · refine (at_no t v i w h (not_in hi)).mono ?_
    rintro e w' ⟨ev, rfl, hf, hb⟩
    have e1 : atP t i = ([], []) := by unfold atP; rw [if_neg hi]
    have e2 : atK t i = 1 := by unfold atK; rw [if_neg hi]
    rw [e1, e2]
    exact ⟨_, rfl, .inr hf, hb⟩
theorem path_all (t : Option Av) (v : Value) (i : Int) (w : World) (h : TreeO w t v) (hm : manyO t ≤ 900000) :
    Calls Tryd.prog 27 #[v, .int .i64 i] w fun e w' => ∃ A n c ev, e = .returned (.tuple #[.slice A n c, ev]) ∧ n = (pathI t i).length ∧ Rd w' A (stepsC (pathI t i)) ∧ ErrN w' ev (atK t i) ∧ Below w.heap.size w w' := by
  by_cases hi : inI t i
  · cases t with
    | none => exfalso; unfold inI at hi; simp only [manyO] at hi; omega
    | some t =>
      obtain ⟨g, rfl, ht⟩ := h
      obtain ⟨k, rfl⟩ : ∃ k : Nat, i = (k : Nat) := ⟨i.toNat, by unfold inI at hi; omega⟩
      have hk : k < t.many := by unfold inI at hi; simp only [manyO] at hi; omega
      refine (path_any t g k w ht hk hm).mono ?_
      rintro e w' ⟨v', rfl, ho, hb⟩
      obtain ⟨A, c, rfl, _, hr, _⟩ := own_slice ho
      have e1 : pathI (some t) (k : Int) = t.path k := by unfold pathI; rw [if_pos hi, Int.toNat_natCast]
      have e2 : atK (some t) (k : Int) = 0 := by unfold atK; rw [if_pos hi]
      rw [e1, e2]
      exact ⟨_, _, _, _, rfl, rfl, hr, .inl ⟨rfl, rfl⟩, hb⟩
  · refine (path_no t v i w h (not_in hi)).mono ?_
    rintro e w' ⟨ev, rfl, hf, hb⟩
    have e1 : pathI t i = [] := by unfold pathI; rw [if_neg hi]
    have e2 : atK t i = 1 := by unfold atK; rw [if_neg hi]
    rw [e1, e2]
    exact ⟨_, _, _, _, rfl, rfl, Rd.nil _ _, .inr hf, hb⟩
theorem rpath_all (t : Option Av) (i : Int) (cs : List Value) (w : World) (h : RO w t cs) (hm : manyO t ≤ 900000) (hs : SmallP (pairsO t)) :
    Calls Tryd.prog 35 #[.agg cs.toArray, .int .i64 i] w fun e w' => ∃ A n c, e = .returned (.tuple #[.slice A n c, .int .i64 (atK t i : Nat)]) ∧ n = (pathI t i).length ∧ Rd w' A (stepsC (pathI t i)) ∧ Below w.heap.size w w' := by
  by_cases hi : inI t i
  · cases t with
    | none => exfalso; unfold inI at hi; simp only [manyO] at hi; omega
    | some t =>
      obtain ⟨k, rfl⟩ : ∃ k : Nat, i = (k : Nat) := ⟨i.toNat, by unfold inI at hi; omega⟩
      have hk : k < t.many := by unfold inI at hi; simp only [manyO] at hi; omega
      refine (rpath_tree t k cs w h hk hm hs).mono ?_
      rintro e w' ⟨v', rfl, ho, hb⟩
      obtain ⟨A, c, rfl, _, hr, _⟩ := own_slice ho
      have e1 : pathI (some t) (k : Int) = t.path k := by unfold pathI; rw [if_pos hi, Int.toNat_natCast]
      have e2 : atK (some t) (k : Int) = 0 := by unfold atK; rw [if_pos hi]
      rw [e1, e2]
      exact ⟨_, _, _, rfl, rfl, hr, hb⟩
  · refine (rpath_no t i cs w h hm (not_in hi)).mono ?_
    rintro e w' ⟨rfl, hb⟩
    have e1 : pathI t i = [] := by unfold pathI; rw [if_neg hi]
    have e2 : atK t i = 1 := by unfold atK; rw [if_neg hi]
    rw [e1, e2]
    exact ⟨_, _, _, rfl, rfl, Rd.nil _ _, hb⟩
theorem rpairs_none (cs : List Value) (w : World) (h : RO w none cs) :
    Calls Tryd.prog 34 #[.agg cs.toArray] w fun e w' => e = .returned (.slice none 0 0) ∧ Below w.heap.size w w' := by
  obtain rfl := h
  unfold emptyC
  go_enter Tryd.func34, Tryd.ntmps34
  go_wp2
  go_ret
  exact ⟨rfl, (Below.refl _ _).alloc (Nat.le_refl _) _⟩
theorem range_rd (t : Option Av) (v : Value) (frm til : Str) (w : World) (h : TreeO w t v) (hg : Isth.Good t) (hm : manyO t ≤ 900000) :
    Calls Tryd.prog 12 #[v, S8 frm, S8 til] w fun e w' => ∃ A c, e = .returned (.slice A (rangeO frm til t).length c) ∧ Rd w' A (pairsC (rangeO frm til t)) ∧ Below w.heap.size w w' := by
  refine (range_any t v frm til w h hg hm).mono ?_
  rintro e w' ⟨v', rfl, ho, hb⟩
  obtain ⟨A, c, rfl, _, hr, _⟩ := own_slice ho
  exact ⟨A, c, rfl, hr, hb⟩
end Go.Proofs.YtdekealpachhmaaDoor
