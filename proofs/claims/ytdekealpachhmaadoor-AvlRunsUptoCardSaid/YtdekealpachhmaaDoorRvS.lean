/- Layer 7's reference: Set by its contract. -/
import Derived.Test.YtdekealpachhmaaDoorRvR
import Derived.Test.YtdekealpachhmaaDoorAvQ
namespace Go.Proofs.YtdekealpachhmaaDoor
open Go Go.RowKit Go.Isth

theorem rleaf_to (k v : Str) (w : World) : Calls Tryd.prog 85 #[S8 k, S8 v] w fun e w' => ∃ cs, e = .returned (.agg cs.toArray) ∧ RC w' (.leaf k v) cs ∧ Below w.heap.size w w' := rleaf_any k v w
theorem rpairs_first (t : Av) (cs : List Value) (w : World) (h : RC w t cs) (hm : t.many ≤ 900000) :
    Calls Tryd.prog 34 #[.agg cs.toArray] w fun e w' => ∃ b o n c, e = .returned (.slice (some ⟨b, o, none⟩) n c) ∧ 0 < n ∧ n ≤ 900000 ∧ w'.cell? ⟨b, o, none⟩ = some (S8 t.least) ∧ Below w.heap.size w w' := by
  refine (rpairs_tree t cs w h hm).mono ?_
  rintro e w' ⟨v, rfl, ho, hb⟩
  obtain ⟨A, c, rfl, _, hr, _⟩ := own_slice ho
  obtain ⟨v, r, hp⟩ := t.pairs_head
  rw [hp] at hr
  obtain ⟨b, o, rfl, _, hc⟩ := hr.at_ (by simp [pairsC, pairC])
  exact ⟨b, o, _, _, rfl, t.many_pos, hm, hc 0 (by simp [pairsC, pairC]), hb⟩
def RSet (t : Av) : Prop := ∀ (key value : Str) (cs : List Value) (w : World), RC w t cs → t.Bal → t.many ≤ 800000 →
    Calls Tryd.prog 56 #[.agg cs.toArray, S8 key, S8 value] w fun e w' => ∃ cs', e = .returned (.agg cs'.toArray) ∧ RC w' (t.set key value) cs' ∧ Below w.heap.size w w'
set_option maxRecDepth 100000 in
set_option maxHeartbeats 2000000 in
theorem rset_leaf (k v : Str) : RSet (.leaf k v) := by
  intro key value cs w h hbal hm
  have lc := h.len
  have hcs : cs = [.bool true, S8 k, S8 v, .slice none 0 0] := h
  obtain ⟨w1, hw1⟩ : ∃ w1, w1 = w.alloc (.cells cs.toArray 26) := ⟨_, rfl⟩
  obtain ⟨w3, hw3⟩ : ∃ w3, w3 = w1.alloc (.cells emptyC.toArray 26) := ⟨_, rfl⟩
  obtain ⟨xa, hxa⟩ : ∃ n, n = w.heap.size := ⟨_, rfl⟩
  have s1 : w1.heap.size = xa + 1 := by rw [hw1, World.size_alloc, hxa]
  have s3 : w3.heap.size = xa + 1 + 1 := by rw [hw3, World.size_alloc, s1]
  have b1 : Below w.heap.size w w1 := by rw [hw1]; exact (Below.refl _ _).alloc (Nat.le_refl _) _
  have b3 : Below w.heap.size w w3 := by rw [hw3]; exact b1.alloc b1.size _
  have z1 : Blk w3 xa 26 cs := by rw [hw3, hw1, hxa]; exact (Blk_new w cs 26).alloc _
  have z3 : Blk w3 (xa + 1) 26 emptyC := by rw [← s1, hw3]; exact Blk_new w1 emptyC 26
  have HW0 := Lib.hid b3
  have HX := Lib.hid z3
  have HXA := Lib.hid (And.intro hxa s3)
  have uT := Tryd.underlying26
  have e0 : w3.cell? ⟨xa, 0, none⟩ = some (.bool true) := z1.cellD 0 _ (by rw [hcs]; rfl)
  have e1 : w3.cell? ⟨xa, 1, none⟩ = some (S8 k) := z1.cellD 1 _ (by rw [hcs]; rfl)
  have e3 : w3.cell? ⟨xa, 3, none⟩ = some (.slice none 0 0) := z1.cellD 3 _ (by rw [hcs]; rfl)
  have HTS : Hid (∀ w', Off w3 (xa + 1) w' → w'.rangeAt xa 0 cs) := Lib.hid fun w' h => range_off (blk_range z1) h (by omega)
  have HT : Hid (RC w3 (.leaf k v) cs) := Lib.hid (h.below b3)
  have i1 : (Tryd.prog.info? 26).map (·.size) = some cs.length := by rw [lc]; kernel_rfl
  clear hcs
  have HB : Hid (Below w3.heap.size w3 (w3.drewN 1)) := Lib.hid (refl_drewN w3 1)
  rcases hlt : Op.bytesLess key k with _ | _
  · by_cases hkk : k = key
    · have hne : (k == key) = true := by simp [hkk]
      have HR := Lib.hid (show Av.set key value (.leaf k v) = .leaf key value by unfold Av.set; rw [if_neg (by rw [hlt]; simp), if_neg (by rw [hkk, less_irrefl]; simp)])
      clear hkk
      rw [HR.out]
      go_enter Tryd.func56, Tryd.ntmps56
      go_upto_region 1 with fail
      change Code.wp _ _ _ _ ((w.alloc (.cells cs.toArray 26)).alloc (.cells emptyC.toArray 26))
      rw [← hw1, ← hw3, ← hxa]
      clear hw1 hw3 hxa s1 s3 b1 b3 z1 z3 h hbal hm lc
      go_wp2_with fail
      refine (rleaf_to key value _).mono ?_
      rintro e wc ⟨cf, rfl, hn, hb⟩
      have HF := Lib.hid hn
      have HB := Lib.hid hb
      clear hn hb
      go_wp2_with (refine wpList_store_blk rfl 26 (.tmp 6) _ rfl (xa + 1) cf rfl rfl 26 _ (HX.out.below HB.out) (by rw [HF.out.len]; kernel_rfl) (by rw [HF.out.len]; rfl) HF.out.one ?_; intro w9 hz hg)
      refine bodyPost_ret (results_blk rfl _ _ (xa + 1) 26 cf _ rfl hz uT rfl (by rw [HF.out.len]; kernel_rfl)) rfl ⟨_, rfl, RC.store (HX.out.below HB.out) hg HF.out, ?_⟩
      exact (below_then HW0.out HW0.out.size HB.out).grown hg (below_then HW0.out HW0.out.size HB.out).size (fun q e => by injection e with e; have := HXA.out; omega)
    · have hne : (k == key) = false := by simp [hkk]
      have hgt : Op.bytesLess k key = true := by
        rcases less_tri key k with h | h | h
        · rw [hlt] at h; cases h
        · exact absurd h.symm hkk
        · exact h
      have HR := Lib.hid (show Av.set key value (.leaf k v) = .node (.leaf k v) (.leaf key value) by unfold Av.set; rw [if_neg (by rw [hlt]; simp), if_pos hgt])
      clear hkk hgt
      rw [HR.out]
      go_enter Tryd.func56, Tryd.ntmps56
      go_upto_region 1 with fail
      change Code.wp _ _ _ _ ((w.alloc (.cells cs.toArray 26)).alloc (.cells emptyC.toArray 26))
      rw [← hw1, ← hw3, ← hxa]
      clear hw1 hw3 hxa s1 s3 b1 b3 z1 z3 h hbal hm lc
      go_wp2_with fail
      refine wp_region_held_drew (S := (fun w' => w'.rangeAt xa 0 cs)) (by kernel_rfl) ?p8_s0 (fun hHeld => ?_)
      case p8_s0 => exact HTS.out _ (off_below HB.out)
      refine held_row (i := 0) rfl (by kernel_rfl) (by kernel_rfl) (by kernel_rfl) _ _ rfl _ _ rfl ?p8_1C ?p8_1D (fun _ _ _ h => h) (by rfl) ?p8_1a ?p8_1b ?p8_1c ?p8_1d hHeld ?_
      case p8_1a => (intro w hSw; (try dsimp only at hSw); go_split_ands; assumption)
      case p8_1b => assumption
      case p8_1c => rfl
      case p8_1d => first | assumption | (simp only [*]; done)
      try simp only [Act.put, List.setIfInBounds_toArray, List.set_cons_zero, List.set_cons_succ]
      refine held_take (i := 1) (v := ?p8_2v) rfl (by kernel_rfl) (by kernel_rfl) (by kernel_rfl) (fun _ _ _ h => h) (by rfl) ?p8_2y hHeld ?_
      case p8_2y => ((intro w _hSw; (try dsimp only at _hSw); go_simp); try (with_reducible rfl))
      try simp only [Act.put, List.setIfInBounds_toArray, List.set_cons_zero, List.set_cons_succ]
      refine held_take (i := 2) (v := ?p8_3v) rfl (by kernel_rfl) (by kernel_rfl) (by kernel_rfl) (fun _ _ _ h => h) (by rfl) ?p8_3y hHeld ?_
      case p8_3y => ((intro w _hSw; (try dsimp only at _hSw); go_simp); try (with_reducible rfl))
      try simp only [Act.put, List.setIfInBounds_toArray, List.set_cons_zero, List.set_cons_succ]
      refine held_step (i := 3) rfl (by kernel_rfl) (by rfl) (fun K hK => ?_)
      go_simp
      refine (rleaf_to key value _).mono ?_
      rintro e wc ⟨q1, rfl, hn, hb⟩
      have Hq1 := Lib.hid hn
      have HB := Lib.hid (below_then HB.out HB.out.size hb)
      clear hn hb
      go_wp2_with fail
      have hHeld := HTS.out _ (off_below HB.out)
      refine hK.out _ _ (HTS.out _ (off_below HB.out)) ?_
      clear hK K
      try simp only [Act.put, List.setIfInBounds_toArray, List.set_cons_zero, List.set_cons_succ]
      refine held_step (i := 4) rfl (by kernel_rfl) (by rfl) (fun K hK => ?_)
      go_simp
      refine (rtwo_any (.leaf k v) (.leaf key value) cs q1 _ (HT.out.below HB.out) Hq1.out).mono ?_
      rintro e wc ⟨q2, rfl, hn, hb⟩
      have Hq2 := Lib.hid hn
      have HB := Lib.hid (below_then HB.out HB.out.size hb)
      clear hn hb
      go_wp2_with fail
      have hHeld := HTS.out _ (off_below HB.out)
      refine hK.out _ _ (HTS.out _ (off_below HB.out)) ?_
      clear hK K
      try simp only [Act.put, List.setIfInBounds_toArray, List.set_cons_zero, List.set_cons_succ]
      refine held_step (i := 5) rfl (by kernel_rfl) (by rfl) (fun K hK => ?_)
      refine wp_store_blk 26 (.tmp 6) (.tmp 37) rfl (xa + 1) q2 rfl rfl 26 _ (HX.out.below HB.out) (by rw [Hq2.out.len]; kernel_rfl) (by rw [Hq2.out.len]; rfl) Hq2.out.one ?_
      intro w9 hz hg
      have H9 := Lib.hid (And.intro hz (And.intro ((below_then HW0.out HW0.out.size HB.out).grown hg (below_then HW0.out HW0.out.size HB.out).size (fun q e => by injection e with e; have := HXA.out; omega)) (RC.store (HX.out.below HB.out) hg Hq2.out)))
      have HS9 := Lib.hid (off_store HB.out hg)
      clear hz hg
      have hHeld := HTS.out _ HS9.out
      refine hK.out _ _ (HTS.out _ HS9.out) ?_
      clear hK K
      (try simp only [Act.put]); (try simp only [List.setIfInBounds_toArray]); (try simp only [List.set_cons_succ]); (try simp only [List.set_cons_zero])
      refine wpAnyH_done (by kernel_rfl) ?_ _
      go_wp2
      refine bodyPost_ret (results_blk rfl _ _ (xa + 1) 26 q2 _ rfl H9.out.1 uT rfl (by rw [Hq2.out.len]; kernel_rfl)) rfl ⟨_, rfl, H9.out.2.2, H9.out.2.1⟩
  · have hne : (k == key) = false := by
      have : k ≠ key := by rintro rfl; rw [less_irrefl] at hlt; cases hlt
      simp [this]
    have HR := Lib.hid (show Av.set key value (.leaf k v) = .node (.leaf key value) (.leaf k v) by unfold Av.set; rw [if_pos hlt])
    rw [HR.out]
    go_enter Tryd.func56, Tryd.ntmps56
    go_upto_region 1 with fail
    change Code.wp _ _ _ _ ((w.alloc (.cells cs.toArray 26)).alloc (.cells emptyC.toArray 26))
    rw [← hw1, ← hw3, ← hxa]
    clear hw1 hw3 hxa s1 s3 b1 b3 z1 z3 h hbal hm lc
    go_wp2_with fail
    refine wp_region_held_drew (S := (fun w' => w'.rangeAt xa 0 cs)) (by kernel_rfl) ?p7_s0 (fun hHeld => ?_)
    case p7_s0 => exact HTS.out _ (off_below HB.out)
    refine held_take (i := 0) (v := ?p7_1v) rfl (by kernel_rfl) (by kernel_rfl) (by kernel_rfl) (fun _ _ _ h => h) (by rfl) ?p7_1y hHeld ?_
    case p7_1y => ((intro w _hSw; (try dsimp only at _hSw); go_simp); try (with_reducible rfl))
    try simp only [Act.put, List.setIfInBounds_toArray, List.set_cons_zero, List.set_cons_succ]
    refine held_take (i := 1) (v := ?p7_2v) rfl (by kernel_rfl) (by kernel_rfl) (by kernel_rfl) (fun _ _ _ h => h) (by rfl) ?p7_2y hHeld ?_
    case p7_2y => ((intro w _hSw; (try dsimp only at _hSw); go_simp); try (with_reducible rfl))
    try simp only [Act.put, List.setIfInBounds_toArray, List.set_cons_zero, List.set_cons_succ]
    refine held_row (i := 3) rfl (by kernel_rfl) (by kernel_rfl) (by kernel_rfl) _ _ rfl _ _ rfl ?p7_3C ?p7_3D (fun _ _ _ h => h) (by rfl) ?p7_3a ?p7_3b ?p7_3c ?p7_3d hHeld ?_
    case p7_3a => (intro w hSw; (try dsimp only at hSw); go_split_ands; assumption)
    case p7_3b => assumption
    case p7_3c => rfl
    case p7_3d => first | assumption | (simp only [*]; done)
    try simp only [Act.put, List.setIfInBounds_toArray, List.set_cons_zero, List.set_cons_succ]
    refine held_step (i := 2) rfl (by kernel_rfl) (by rfl) (fun K hK => ?_)
    go_simp
    refine (rleaf_to key value _).mono ?_
    rintro e wc ⟨q1, rfl, hn, hb⟩
    have Hq1 := Lib.hid hn
    have HB := Lib.hid (below_then HB.out HB.out.size hb)
    clear hn hb
    go_wp2_with fail
    have hHeld := HTS.out _ (off_below HB.out)
    refine hK.out _ _ (HTS.out _ (off_below HB.out)) ?_
    clear hK K
    try simp only [Act.put, List.setIfInBounds_toArray, List.set_cons_zero, List.set_cons_succ]
    refine held_step (i := 4) rfl (by kernel_rfl) (by rfl) (fun K hK => ?_)
    go_simp
    refine (rtwo_any (.leaf key value) (.leaf k v) q1 cs _ Hq1.out (HT.out.below HB.out)).mono ?_
    rintro e wc ⟨q2, rfl, hn, hb⟩
    have Hq2 := Lib.hid hn
    have HB := Lib.hid (below_then HB.out HB.out.size hb)
    clear hn hb
    go_wp2_with fail
    have hHeld := HTS.out _ (off_below HB.out)
    refine hK.out _ _ (HTS.out _ (off_below HB.out)) ?_
    clear hK K
    try simp only [Act.put, List.setIfInBounds_toArray, List.set_cons_zero, List.set_cons_succ]
    refine held_step (i := 5) rfl (by kernel_rfl) (by rfl) (fun K hK => ?_)
    refine wp_store_blk 26 (.tmp 6) (.tmp 32) rfl (xa + 1) q2 rfl rfl 26 _ (HX.out.below HB.out) (by rw [Hq2.out.len]; kernel_rfl) (by rw [Hq2.out.len]; rfl) Hq2.out.one ?_
    intro w9 hz hg
    have H9 := Lib.hid (And.intro hz (And.intro ((below_then HW0.out HW0.out.size HB.out).grown hg (below_then HW0.out HW0.out.size HB.out).size (fun q e => by injection e with e; have := HXA.out; omega)) (RC.store (HX.out.below HB.out) hg Hq2.out)))
    have HS9 := Lib.hid (off_store HB.out hg)
    clear hz hg
    have hHeld := HTS.out _ HS9.out
    refine hK.out _ _ (HTS.out _ HS9.out) ?_
    clear hK K
    (try simp only [Act.put]); (try simp only [List.setIfInBounds_toArray]); (try simp only [List.set_cons_succ]); (try simp only [List.set_cons_zero])
    refine wpAnyH_done (by kernel_rfl) ?_ _
    go_wp2
    refine bodyPost_ret (results_blk rfl _ _ (xa + 1) 26 q2 _ rfl H9.out.1 uT rfl (by rw [Hq2.out.len]; kernel_rfl)) rfl ⟨_, rfl, H9.out.2.2, H9.out.2.1⟩
set_option maxRecDepth 100000 in
set_option maxHeartbeats 2000000 in
theorem rset_node (a b : Av) (IHa : Hid (RSet a)) (IHb : Hid (RSet b)) : RSet (.node a b) := by
  intro key value cs w h hbal hm
  have lc := h.len
  obtain ⟨g, ca, cb, hcs, hra, hrb, ha, hb⟩ := rnode h
  have la := ha.len
  have lb := hb.len
  have hgw := range_lt hra (by rw [la]; omega)
  obtain ⟨bala, balb, hab, hba⟩ := hbal
  simp only [Av.many] at hm
  obtain ⟨w1, hw1⟩ : ∃ w1, w1 = w.alloc (.cells cs.toArray 26) := ⟨_, rfl⟩
  obtain ⟨w3, hw3⟩ : ∃ w3, w3 = w1.alloc (.cells emptyC.toArray 26) := ⟨_, rfl⟩
  obtain ⟨xa, hxa⟩ : ∃ n, n = w.heap.size := ⟨_, rfl⟩
  have s1 : w1.heap.size = xa + 1 := by rw [hw1, World.size_alloc, hxa]
  have s3 : w3.heap.size = xa + 1 + 1 := by rw [hw3, World.size_alloc, s1]
  have b1 : Below w.heap.size w w1 := by rw [hw1]; exact (Below.refl _ _).alloc (Nat.le_refl _) _
  have b3 : Below w.heap.size w w3 := by rw [hw3]; exact b1.alloc b1.size _
  have z1 : Blk w3 xa 26 cs := by rw [hw3, hw1, hxa]; exact (Blk_new w cs 26).alloc _
  have z3 : Blk w3 (xa + 1) 26 emptyC := by rw [← s1, hw3]; exact Blk_new w1 emptyC 26
  have HW0 := Lib.hid b3
  have HX := Lib.hid z3
  have HXA := Lib.hid (And.intro hxa s3)
  have uT := Tryd.underlying26
  have e0 : w3.cell? ⟨xa, 0, none⟩ = some (.bool true) := z1.cellD 0 _ (by rw [hcs]; rfl)
  have e3 : w3.cell? ⟨xa, 3, none⟩ = some (.slice (some ⟨g, 0, none⟩) 2 2) := z1.cellD 3 _ (by rw [hcs]; rfl)
  have HTS : Hid (∀ w', Off w3 (xa + 1) w' → w'.cell? ⟨xa, 3, none⟩ = some (.slice (some ⟨g, 0, none⟩) 2 2) ∧ w'.rangeAt g 0 ca ∧ w'.rangeAt g 4 cb) := Lib.hid fun w' h => ⟨cell_off e3 h (by omega), range_off (range_below hra b3) h (by omega), range_off (range_below hrb b3) h (by omega)⟩
  have HT : Hid (RC w3 a ca ∧ RC w3 b cb) := Lib.hid ⟨ha.below b3, hb.below b3⟩
  have HM := Lib.hid hm
  have HBL := Lib.hid (And.intro bala (And.intro balb (And.intro hab hba)))
  have i1 : (Tryd.prog.info? 26).map (·.size) = some ca.length := by rw [la]; kernel_rfl
  have i2 : (Tryd.prog.info? 26).map (·.size) = some cb.length := by rw [lb]; kernel_rfl
  have HLB := Lib.hid (run_load_agg (P := Tryd.prog) Tryd.underlying26 rfl (by kernel_rfl) w3 ⟨g, 4, none⟩ cb lb (fun j u hj => by rw [add_plain]; exact range_below hrb b3 j u hj))
  clear hcs
  rcases hlt : Op.bytesLess key b.least with _ | _
  · have HR := Lib.hid (show Av.set key value (.node a b) = Av.right a (b.set key value) by rw [Av.set, if_neg (by rw [hlt]; simp)])
    rw [HR.out]
    go_enter Tryd.func56, Tryd.ntmps56
    go_upto_region 1 with fail
    change Code.wp _ _ _ _ ((w.alloc (.cells cs.toArray 26)).alloc (.cells emptyC.toArray 26))
    rw [← hw1, ← hw3, ← hxa]
    clear hw1 hw3 hxa s1 s3 b1 b3 z1 z3 h hm lc la lb hra hrb ha hb hgw bala balb hab hba
    go_wp2_with (refine wpList_load rfl (.tmp 41) rfl ⟨g, 4, none⟩ (.agg cb.toArray) rfl HLB.out ?_)
    refine (rpairs_first b cb _ HT.out.2 (by have := HM.out; omega)).mono ?_
    rintro e wc ⟨pb, po, pn, pc, rfl, hp0, hp9, ec, hb⟩
    have hp0' : (0 : Int) < (pn : Int) := by omega
    have HB := Lib.hid (below_then hb hb.size (refl_drewN wc 1))
    clear hb e0 e3 hp9
    go_wp2_with fail
    refine wp_region_held_drew (S := (fun w' => w'.cell? ⟨xa, 3, none⟩ = some (.slice (some ⟨g, 0, none⟩) 2 2) ∧ w'.rangeAt g 0 ca ∧ w'.rangeAt g 4 cb)) (by kernel_rfl) ?p11_s0 (fun hHeld => ?_)
    case p11_s0 => exact HTS.out _ (off_below HB.out)
    refine held_take (i := 0) (v := ?p11_1v) rfl (by kernel_rfl) (by kernel_rfl) (by kernel_rfl) (fun _ _ _ h => h) (by rfl) ?p11_1y hHeld ?_
    case p11_1y => ((intro w _hSw; (try dsimp only at _hSw); go_simp); try (with_reducible rfl))
    try simp only [Act.put, List.setIfInBounds_toArray, List.set_cons_zero, List.set_cons_succ]
    refine held_take (i := 1) (v := ?p11_2v) rfl (by kernel_rfl) (by kernel_rfl) (by kernel_rfl) (fun _ _ _ h => h) (by rfl) ?p11_2y hHeld ?_
    case p11_2y => ((intro w _hSw; (try dsimp only at _hSw); go_simp); try (with_reducible rfl))
    try simp only [Act.put, List.setIfInBounds_toArray, List.set_cons_zero, List.set_cons_succ]
    refine held_take (i := 2) (v := ?p11_3v) rfl (by kernel_rfl) (by kernel_rfl) (by kernel_rfl) (fun _ _ _ h => h) (by rfl) ?p11_3y hHeld ?_
    case p11_3y => ((intro w _hSw; (try dsimp only at _hSw); go_simp); try (with_reducible rfl))
    try simp only [Act.put, List.setIfInBounds_toArray, List.set_cons_zero, List.set_cons_succ]
    refine held_row (i := 3) rfl (by kernel_rfl) (by kernel_rfl) (by kernel_rfl) _ _ rfl _ _ rfl ?p11_4C ?p11_4D (fun _ _ _ h => h) (by rfl) ?p11_4a ?p11_4b ?p11_4c ?p11_4d hHeld ?_
    case p11_4a => (intro w hSw; (try dsimp only at hSw); go_split_ands; assumption)
    case p11_4b => assumption
    case p11_4c => rfl
    case p11_4d => first | assumption | (simp only [*]; done)
    try simp only [Act.put, List.setIfInBounds_toArray, List.set_cons_zero, List.set_cons_succ]
    refine held_take (i := 4) (v := ?p11_5v) rfl (by kernel_rfl) (by kernel_rfl) (by kernel_rfl) (fun _ _ _ h => h) (by rfl) ?p11_5y hHeld ?_
    case p11_5y => ((intro w _hSw; (try dsimp only at _hSw); go_simp); try (with_reducible rfl))
    try simp only [Act.put, List.setIfInBounds_toArray, List.set_cons_zero, List.set_cons_succ]
    refine held_take (i := 5) (v := ?p11_6v) rfl (by kernel_rfl) (by kernel_rfl) (by kernel_rfl) (fun _ _ _ h => h) (by rfl) ?p11_6y hHeld ?_
    case p11_6y => ((intro w _hSw; (try dsimp only at _hSw); go_simp); try (with_reducible rfl))
    try simp only [Act.put, List.setIfInBounds_toArray, List.set_cons_zero, List.set_cons_succ]
    refine held_take (i := 6) (v := ?p11_7v) rfl (by kernel_rfl) (by kernel_rfl) (by kernel_rfl) (fun _ _ _ h => h) (by rfl) ?p11_7y hHeld ?_
    case p11_7y => ((intro w _hSw; (try dsimp only at _hSw); go_simp); try (with_reducible rfl))
    try simp only [Act.put, List.setIfInBounds_toArray, List.set_cons_zero, List.set_cons_succ]
    refine held_row (i := 7) rfl (by kernel_rfl) (by kernel_rfl) (by kernel_rfl) _ _ rfl _ _ rfl ?p11_8C ?p11_8D (fun _ _ _ h => h) (by rfl) ?p11_8a ?p11_8b ?p11_8c ?p11_8d hHeld ?_
    case p11_8a => (intro w hSw; (try dsimp only at hSw); go_split_ands; assumption)
    case p11_8b => assumption
    case p11_8c => rfl
    case p11_8d => first | assumption | (simp only [*]; done)
    try simp only [Act.put, List.setIfInBounds_toArray, List.set_cons_zero, List.set_cons_succ]
    refine held_take (i := 8) (v := ?p11_9v) rfl (by kernel_rfl) (by kernel_rfl) (by kernel_rfl) (fun _ _ _ h => h) (by rfl) ?p11_9y hHeld ?_
    case p11_9y => ((intro w _hSw; (try dsimp only at _hSw); go_simp); try (with_reducible rfl))
    try simp only [Act.put, List.setIfInBounds_toArray, List.set_cons_zero, List.set_cons_succ]
    refine held_take (i := 9) (v := ?p11_10v) rfl (by kernel_rfl) (by kernel_rfl) (by kernel_rfl) (fun _ _ _ h => h) (by rfl) ?p11_10y hHeld ?_
    case p11_10y => ((intro w _hSw; (try dsimp only at _hSw); go_simp); try (with_reducible rfl))
    try simp only [Act.put, List.setIfInBounds_toArray, List.set_cons_zero, List.set_cons_succ]
    refine held_step (i := 10) rfl (by kernel_rfl) (by rfl) (fun K hK => ?_)
    go_simp
    refine (IHb.out key value cb _ (HT.out.2.below HB.out) HBL.out.2.1 (by have := HM.out; omega)).mono ?_
    rintro e wc ⟨q1, rfl, hn, hb⟩
    have Hq1 := Lib.hid hn
    have HB := Lib.hid (below_then HB.out HB.out.size hb)
    clear hn hb
    go_wp2_with fail
    have hHeld := HTS.out _ (off_below HB.out)
    refine hK.out _ _ (HTS.out _ (off_below HB.out)) ?_
    clear hK K
    try simp only [Act.put, List.setIfInBounds_toArray, List.set_cons_zero, List.set_cons_succ]
    refine held_step (i := 11) rfl (by kernel_rfl) (by rfl) (fun K hK => ?_)
    go_simp
    refine (rright_any a (b.set key value) ca q1 _ (HT.out.1.below HB.out) Hq1.out (by have := HM.out; have := Av.many_set key value b; omega) (by have h := Av.set_bal key value b HBL.out.2.1; have := HBL.out.2.2; omega) (by have h := Av.set_bal key value b HBL.out.2.1; have := HBL.out.2.2; omega)).mono ?_
    rintro e wc ⟨q2, rfl, hn, hb⟩
    have Hq2 := Lib.hid hn
    have HB := Lib.hid (below_then HB.out HB.out.size hb)
    clear hn hb
    go_wp2_with fail
    have hHeld := HTS.out _ (off_below HB.out)
    refine hK.out _ _ (HTS.out _ (off_below HB.out)) ?_
    clear hK K
    try simp only [Act.put, List.setIfInBounds_toArray, List.set_cons_zero, List.set_cons_succ]
    refine held_step (i := 12) rfl (by kernel_rfl) (by rfl) (fun K hK => ?_)
    refine wp_store_blk 26 (.tmp 6) (.tmp 71) rfl (xa + 1) q2 rfl rfl 26 _ (HX.out.below HB.out) (by rw [Hq2.out.len]; kernel_rfl) (by rw [Hq2.out.len]; rfl) Hq2.out.one ?_
    intro w9 hz hg
    have H9 := Lib.hid (And.intro hz (And.intro ((below_then HW0.out HW0.out.size HB.out).grown hg (below_then HW0.out HW0.out.size HB.out).size (fun q e => by injection e with e; have := HXA.out; omega)) (RC.store (HX.out.below HB.out) hg Hq2.out)))
    have HS9 := Lib.hid (off_store HB.out hg)
    clear hz hg
    have hHeld := HTS.out _ HS9.out
    refine hK.out _ _ (HTS.out _ HS9.out) ?_
    clear hK K
    (try simp only [Act.put]); (try simp only [List.setIfInBounds_toArray]); (try simp only [List.set_cons_succ]); (try simp only [List.set_cons_zero])
    refine wpAnyH_done (by kernel_rfl) ?_ _
    go_wp2
    refine bodyPost_ret (results_blk rfl _ _ (xa + 1) 26 q2 _ rfl H9.out.1 uT rfl (by rw [Hq2.out.len]; kernel_rfl)) rfl ⟨_, rfl, H9.out.2.2, H9.out.2.1⟩
  · have HR := Lib.hid (show Av.set key value (.node a b) = Av.right (a.set key value) b by rw [Av.set, if_pos hlt])
    rw [HR.out]
    go_enter Tryd.func56, Tryd.ntmps56
    go_upto_region 1 with fail
    change Code.wp _ _ _ _ ((w.alloc (.cells cs.toArray 26)).alloc (.cells emptyC.toArray 26))
    rw [← hw1, ← hw3, ← hxa]
    clear hw1 hw3 hxa s1 s3 b1 b3 z1 z3 h hm lc la lb hra hrb ha hb hgw bala balb hab hba
    go_wp2_with (refine wpList_load rfl (.tmp 41) rfl ⟨g, 4, none⟩ (.agg cb.toArray) rfl HLB.out ?_)
    refine (rpairs_first b cb _ HT.out.2 (by have := HM.out; omega)).mono ?_
    rintro e wc ⟨pb, po, pn, pc, rfl, hp0, hp9, ec, hb⟩
    have hp0' : (0 : Int) < (pn : Int) := by omega
    have HB := Lib.hid (below_then hb hb.size (refl_drewN wc 1))
    clear hb e0 e3 hp9
    go_wp2_with fail
    refine wp_region_held_drew (S := (fun w' => w'.cell? ⟨xa, 3, none⟩ = some (.slice (some ⟨g, 0, none⟩) 2 2) ∧ w'.rangeAt g 0 ca ∧ w'.rangeAt g 4 cb)) (by kernel_rfl) ?p10_s0 (fun hHeld => ?_)
    case p10_s0 => exact HTS.out _ (off_below HB.out)
    refine held_take (i := 0) (v := ?p10_1v) rfl (by kernel_rfl) (by kernel_rfl) (by kernel_rfl) (fun _ _ _ h => h) (by rfl) ?p10_1y hHeld ?_
    case p10_1y => ((intro w _hSw; (try dsimp only at _hSw); go_simp); try (with_reducible rfl))
    try simp only [Act.put, List.setIfInBounds_toArray, List.set_cons_zero, List.set_cons_succ]
    refine held_take (i := 1) (v := ?p10_2v) rfl (by kernel_rfl) (by kernel_rfl) (by kernel_rfl) (fun _ _ _ h => h) (by rfl) ?p10_2y hHeld ?_
    case p10_2y => ((intro w _hSw; (try dsimp only at _hSw); go_simp); try (with_reducible rfl))
    try simp only [Act.put, List.setIfInBounds_toArray, List.set_cons_zero, List.set_cons_succ]
    refine held_take (i := 2) (v := ?p10_3v) rfl (by kernel_rfl) (by kernel_rfl) (by kernel_rfl) (fun _ _ _ h => h) (by rfl) ?p10_3y hHeld ?_
    case p10_3y => ((intro w _hSw; (try dsimp only at _hSw); go_simp); try (with_reducible rfl))
    try simp only [Act.put, List.setIfInBounds_toArray, List.set_cons_zero, List.set_cons_succ]
    refine held_row (i := 3) rfl (by kernel_rfl) (by kernel_rfl) (by kernel_rfl) _ _ rfl _ _ rfl ?p10_4C ?p10_4D (fun _ _ _ h => h) (by rfl) ?p10_4a ?p10_4b ?p10_4c ?p10_4d hHeld ?_
    case p10_4a => (intro w hSw; (try dsimp only at hSw); go_split_ands; assumption)
    case p10_4b => assumption
    case p10_4c => rfl
    case p10_4d => first | assumption | (simp only [*]; done)
    try simp only [Act.put, List.setIfInBounds_toArray, List.set_cons_zero, List.set_cons_succ]
    refine held_take (i := 4) (v := ?p10_5v) rfl (by kernel_rfl) (by kernel_rfl) (by kernel_rfl) (fun _ _ _ h => h) (by rfl) ?p10_5y hHeld ?_
    case p10_5y => ((intro w _hSw; (try dsimp only at _hSw); go_simp); try (with_reducible rfl))
    try simp only [Act.put, List.setIfInBounds_toArray, List.set_cons_zero, List.set_cons_succ]
    refine held_take (i := 5) (v := ?p10_6v) rfl (by kernel_rfl) (by kernel_rfl) (by kernel_rfl) (fun _ _ _ h => h) (by rfl) ?p10_6y hHeld ?_
    case p10_6y => ((intro w _hSw; (try dsimp only at _hSw); go_simp); try (with_reducible rfl))
    try simp only [Act.put, List.setIfInBounds_toArray, List.set_cons_zero, List.set_cons_succ]
    refine held_take (i := 7) (v := ?p10_7v) rfl (by kernel_rfl) (by kernel_rfl) (by kernel_rfl) (fun _ _ _ h => h) (by rfl) ?p10_7y hHeld ?_
    case p10_7y => ((intro w _hSw; (try dsimp only at _hSw); go_simp); try (with_reducible rfl))
    try simp only [Act.put, List.setIfInBounds_toArray, List.set_cons_zero, List.set_cons_succ]
    refine held_take (i := 8) (v := ?p10_8v) rfl (by kernel_rfl) (by kernel_rfl) (by kernel_rfl) (fun _ _ _ h => h) (by rfl) ?p10_8y hHeld ?_
    case p10_8y => ((intro w _hSw; (try dsimp only at _hSw); go_simp); try (with_reducible rfl))
    try simp only [Act.put, List.setIfInBounds_toArray, List.set_cons_zero, List.set_cons_succ]
    refine held_take (i := 9) (v := ?p10_9v) rfl (by kernel_rfl) (by kernel_rfl) (by kernel_rfl) (fun _ _ _ h => h) (by rfl) ?p10_9y hHeld ?_
    case p10_9y => ((intro w _hSw; (try dsimp only at _hSw); go_simp); try (with_reducible rfl))
    try simp only [Act.put, List.setIfInBounds_toArray, List.set_cons_zero, List.set_cons_succ]
    refine held_row (i := 10) rfl (by kernel_rfl) (by kernel_rfl) (by kernel_rfl) _ _ rfl _ _ rfl ?p10_10C ?p10_10D (fun _ _ _ h => h) (by rfl) ?p10_10a ?p10_10b ?p10_10c ?p10_10d hHeld ?_
    case p10_10a => (intro w hSw; (try dsimp only at hSw); go_split_ands; assumption)
    case p10_10b => assumption
    case p10_10c => rfl
    case p10_10d => first | assumption | (simp only [*]; done)
    try simp only [Act.put, List.setIfInBounds_toArray, List.set_cons_zero, List.set_cons_succ]
    refine held_step (i := 6) rfl (by kernel_rfl) (by rfl) (fun K hK => ?_)
    go_simp
    refine (IHa.out key value ca _ (HT.out.1.below HB.out) HBL.out.1 (by have := HM.out; omega)).mono ?_
    rintro e wc ⟨q1, rfl, hn, hb⟩
    have Hq1 := Lib.hid hn
    have HB := Lib.hid (below_then HB.out HB.out.size hb)
    clear hn hb
    go_wp2_with fail
    have hHeld := HTS.out _ (off_below HB.out)
    refine hK.out _ _ (HTS.out _ (off_below HB.out)) ?_
    clear hK K
    try simp only [Act.put, List.setIfInBounds_toArray, List.set_cons_zero, List.set_cons_succ]
    refine held_step (i := 11) rfl (by kernel_rfl) (by rfl) (fun K hK => ?_)
    go_simp
    refine (rright_any (a.set key value) b q1 cb _ Hq1.out (HT.out.2.below HB.out) (by have := HM.out; have := Av.many_set key value a; omega) (by have h := Av.set_bal key value a HBL.out.1; have := HBL.out.2.2; omega) (by have h := Av.set_bal key value a HBL.out.1; have := HBL.out.2.2; omega)).mono ?_
    rintro e wc ⟨q2, rfl, hn, hb⟩
    have Hq2 := Lib.hid hn
    have HB := Lib.hid (below_then HB.out HB.out.size hb)
    clear hn hb
    go_wp2_with fail
    have hHeld := HTS.out _ (off_below HB.out)
    refine hK.out _ _ (HTS.out _ (off_below HB.out)) ?_
    clear hK K
    try simp only [Act.put, List.setIfInBounds_toArray, List.set_cons_zero, List.set_cons_succ]
    refine held_step (i := 12) rfl (by kernel_rfl) (by rfl) (fun K hK => ?_)
    refine wp_store_blk 26 (.tmp 6) (.tmp 59) rfl (xa + 1) q2 rfl rfl 26 _ (HX.out.below HB.out) (by rw [Hq2.out.len]; kernel_rfl) (by rw [Hq2.out.len]; rfl) Hq2.out.one ?_
    intro w9 hz hg
    have H9 := Lib.hid (And.intro hz (And.intro ((below_then HW0.out HW0.out.size HB.out).grown hg (below_then HW0.out HW0.out.size HB.out).size (fun q e => by injection e with e; have := HXA.out; omega)) (RC.store (HX.out.below HB.out) hg Hq2.out)))
    have HS9 := Lib.hid (off_store HB.out hg)
    clear hz hg
    have hHeld := HTS.out _ HS9.out
    refine hK.out _ _ (HTS.out _ HS9.out) ?_
    clear hK K
    (try simp only [Act.put]); (try simp only [List.setIfInBounds_toArray]); (try simp only [List.set_cons_succ]); (try simp only [List.set_cons_zero])
    refine wpAnyH_done (by kernel_rfl) ?_ _
    go_wp2
    refine bodyPost_ret (results_blk rfl _ _ (xa + 1) 26 q2 _ rfl H9.out.1 uT rfl (by rw [Hq2.out.len]; kernel_rfl)) rfl ⟨_, rfl, H9.out.2.2, H9.out.2.1⟩
theorem rset_tree : ∀ t : Av, RSet t
  | .leaf k v => rset_leaf k v
  | .node a b => rset_node a b (Lib.hid (rset_tree a)) (Lib.hid (rset_tree b))
set_option maxRecDepth 100000 in
set_option maxHeartbeats 2000000 in
theorem rset_any (t : Option Av) (key value : Str) (cs : List Value) (w : World) (h : RO w t cs) (hg : Isth.Good t) (hm : manyO t ≤ 800000) :
    Calls Tryd.prog 56 #[.agg cs.toArray, S8 key, S8 value] w fun e w' => ∃ cs', e = .returned (.agg cs'.toArray) ∧ RC w' (setO key value t) cs' ∧ Below w.heap.size w w' := by
  cases t with
  | some t => exact rset_tree t key value cs w h hg.1 hm
  | none =>
    have hcs : cs = emptyC := h
    obtain ⟨w1, hw1⟩ : ∃ w1, w1 = w.alloc (.cells cs.toArray 26) := ⟨_, rfl⟩
    obtain ⟨w3, hw3⟩ : ∃ w3, w3 = w1.alloc (.cells emptyC.toArray 26) := ⟨_, rfl⟩
    obtain ⟨xa, hxa⟩ : ∃ n, n = w.heap.size := ⟨_, rfl⟩
    have s1 : w1.heap.size = xa + 1 := by rw [hw1, World.size_alloc, hxa]
    have s3 : w3.heap.size = xa + 1 + 1 := by rw [hw3, World.size_alloc, s1]
    have b1 : Below w.heap.size w w1 := by rw [hw1]; exact (Below.refl _ _).alloc (Nat.le_refl _) _
    have b3 : Below w.heap.size w w3 := by rw [hw3]; exact b1.alloc b1.size _
    have z1 : Blk w3 xa 26 cs := by rw [hw3, hw1, hxa]; exact (Blk_new w cs 26).alloc _
    have z3 : Blk w3 (xa + 1) 26 emptyC := by rw [← s1, hw3]; exact Blk_new w1 emptyC 26
    have HW0 := Lib.hid b3
    have HX := Lib.hid z3
    have HXA := Lib.hid (And.intro hxa s3)
    have uT := Tryd.underlying26
    have e0 : w3.cell? ⟨xa, 0, none⟩ = some (.bool false) := z1.cellD 0 _ (by rw [hcs]; rfl)
    clear hcs
    go_enter Tryd.func56, Tryd.ntmps56
    go_upto_region 1 with fail
    change Code.wp _ _ _ _ ((w.alloc (.cells cs.toArray 26)).alloc (.cells emptyC.toArray 26))
    rw [← hw1, ← hw3, ← hxa]
    clear hw1 hw3 hxa s1 s3 b1 b3 z1 z3 h hg hm
    go_wp2_with fail
    refine (rleaf_to key value _).mono ?_
    rintro e wc ⟨cf, rfl, hn, hb⟩
    have HF := Lib.hid hn
    have HB := Lib.hid hb
    clear hn hb
    go_wp2_with (refine wpList_store_blk rfl 26 (.tmp 6) _ rfl (xa + 1) cf rfl rfl 26 _ (HX.out.below HB.out) (by rw [HF.out.len]; kernel_rfl) (by rw [HF.out.len]; rfl) HF.out.one ?_; intro w9 hz hg)
    refine bodyPost_ret (results_blk rfl _ _ (xa + 1) 26 cf _ rfl hz uT rfl (by rw [HF.out.len]; kernel_rfl)) rfl ⟨_, rfl, RC.store (HX.out.below HB.out) hg HF.out, ?_⟩
    exact (below_then HW0.out HW0.out.size HB.out).grown hg (below_then HW0.out HW0.out.size HB.out).size (fun q e => by injection e with e; have := HXA.out; omega)
end Go.Proofs.YtdekealpachhmaaDoor
