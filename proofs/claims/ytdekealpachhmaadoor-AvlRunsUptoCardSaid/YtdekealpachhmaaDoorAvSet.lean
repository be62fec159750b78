/- Layer 7: Set by its contract. -/
import Derived.Test.YtdekealpachhmaaDoorAvR
namespace Go.Proofs.YtdekealpachhmaaDoor
open Go Go.RowKit Go.Isth

def SetCalls (t : Av) : Prop := ∀ (key value : Str) (g : Nat) (w : World), TreeAt w t g → t.many ≤ 900000 → key.length ≤ 2000000 → value.length ≤ 2000000 → TabLaid w →
    Calls Tryd.prog 30 #[Ptr g, S8 key, S8 value] w fun e w' => ∃ g', e = .returned (Ptr g') ∧ TreeAt w' (t.set key value) g' ∧ Below w.heap.size w w'
theorem newleaf_to (k v : Str) (w : World) (hkl : k.length ≤ 2000000) (hvl : v.length ≤ 2000000) (ht : TabLaid w) :
    Calls Tryd.prog 74 #[S8 k, S8 v] w fun e w' => ∃ g, e = .returned (Ptr g) ∧ TreeAt w' (.leaf k v) g ∧ Below w.heap.size w w' := by
  refine (newleaf_any k v ⟨k.toArray⟩ ⟨v.toArray⟩ w rfl rfl hkl hvl ht).mono ?_
  rintro e w' ⟨g, rfl, h, _, hb⟩
  exact ⟨g, rfl, h, hb⟩
set_option maxRecDepth 100000 in
set_option maxHeartbeats 1000000 in
theorem set_leaf (k v : Str) : SetCalls (.leaf k v) := by
  intro key value g w h hm hk hv ht
  have hc0 : w.cell? ⟨g, 0, none⟩ = some (S8 k) := (tree_cells h).1
  have HT := Lib.hid (And.intro h (And.intro hk (And.intro hv ht)))
  clear h hm hk hv ht
  rcases hlt : Op.bytesLess key k with _ | _
  · rcases hgt : Op.bytesLess k key with _ | _
    · have hne : (!key == k) = false := by
        rcases less_tri key k with h | h | h
        · rw [hlt] at h; cases h
        · simp [h]
        · rw [hgt] at h; cases h
      have HR := Lib.hid (show Av.set key value (.leaf k v) = .leaf key value by unfold Av.set; rw [if_neg (by rw [hlt]; simp), if_neg (by rw [hgt]; simp)])
      go_enter Tryd.func30, Tryd.ntmps30
      go_wp2_with fail
      refine (isleaf_any _ g w HT.out.1).mono ?_
      rintro e w1 ⟨rfl, rfl⟩
      have hnot : Av.isLeaf (.leaf k v) = true := rfl
      go_wp2_with fail
      refine (newleaf_to key value _ HT.out.2.1 HT.out.2.2.1 HT.out.2.2.2).mono ?_
      rintro e w2 ⟨p, rfl, hn, hb⟩
      have HN := Lib.hid (And.intro hn hb)
      clear hn hb
      go_wp2
      go_ret
      rw [HR.out]
      exact ⟨_, rfl, HN.out.1, HN.out.2⟩
    · have hne : (!key == k) = true := by
        have : key ≠ k := by rintro rfl; rw [less_irrefl] at hgt; cases hgt
        simp [this]
      have HR := Lib.hid (show Av.set key value (.leaf k v) = .node (.leaf k v) (.leaf key value) by unfold Av.set; rw [if_neg (by rw [hlt]; simp), if_pos hgt])
      go_enter Tryd.func30, Tryd.ntmps30
      go_wp2_with fail
      refine (isleaf_any _ g w HT.out.1).mono ?_
      rintro e w1 ⟨rfl, rfl⟩
      have hnot : Av.isLeaf (.leaf k v) = true := rfl
      go_wp2_with fail
      refine (newleaf_to key value _ HT.out.2.1 HT.out.2.2.1 HT.out.2.2.2).mono ?_
      rintro e w2 ⟨p, rfl, hn, hb⟩
      have HN := Lib.hid (And.intro hn hb)
      clear hn hb
      go_wp2_with fail
      refine (node_to (.leaf k v) (.leaf key value) g p _ (HT.out.1.below HN.out.2) HN.out.1 (by simp only [Av.many]; omega) (HT.out.2.2.2.below HN.out.2 HT.out.2.2.2.lt)).mono ?_
      rintro e w3 ⟨q, rfl, hn, hb⟩
      have HN2 := Lib.hid (And.intro hn (below_then HN.out.2 HN.out.2.size hb))
      clear hn hb
      go_wp2
      go_ret
      rw [HR.out]
      exact ⟨_, rfl, HN2.out.1, HN2.out.2⟩
  · have HR := Lib.hid (show Av.set key value (.leaf k v) = .node (.leaf key value) (.leaf k v) by unfold Av.set; rw [if_pos hlt])
    go_enter Tryd.func30, Tryd.ntmps30
    go_wp2_with fail
    refine (isleaf_any _ g w HT.out.1).mono ?_
    rintro e w1 ⟨rfl, rfl⟩
    have hnot : Av.isLeaf (.leaf k v) = true := rfl
    go_wp2_with fail
    refine (newleaf_to key value _ HT.out.2.1 HT.out.2.2.1 HT.out.2.2.2).mono ?_
    rintro e w2 ⟨p, rfl, hn, hb⟩
    have HN := Lib.hid (And.intro hn hb)
    clear hn hb
    go_wp2_with fail
    refine (node_to (.leaf key value) (.leaf k v) p g _ HN.out.1 (HT.out.1.below HN.out.2) (by simp only [Av.many]; omega) (HT.out.2.2.2.below HN.out.2 HT.out.2.2.2.lt)).mono ?_
    rintro e w3 ⟨q, rfl, hn, hb⟩
    have HN2 := Lib.hid (And.intro hn (below_then HN.out.2 HN.out.2.size hb))
    clear hn hb
    go_wp2
    go_ret
    rw [HR.out]
    exact ⟨_, rfl, HN2.out.1, HN2.out.2⟩
set_option maxRecDepth 100000 in
set_option maxHeartbeats 1000000 in
theorem set_tree : ∀ t : Av, SetCalls t
  | .leaf k v => set_leaf k v
  | .node a b => by
    have IHa := Lib.hid (set_tree a)
    have IHb := Lib.hid (set_tree b)
    intro key value g w h hm hk hv ht
    obtain ⟨ga, gb, c2, c3, ha, hb⟩ := node_cells h
    have hc0 : w.cell? ⟨g, 0, none⟩ = some (S8 b.least) := (tree_cells h).1
    have HTS : Hid (∀ w', Below w.heap.size w w' → w'.cell? ⟨g, 2, none⟩ = some (Ptr ga) ∧ w'.cell? ⟨g, 3, none⟩ = some (Ptr gb)) := Lib.hid fun w' h => ⟨cell_below c2 h, cell_below c3 h⟩
    have H0 := Lib.hid h
    have HT := Lib.hid (And.intro ha (And.intro hb ht))
    have HM := Lib.hid (And.intro hm (And.intro hk hv))
    have HB : Hid (Below w.heap.size w (w.drewN 1)) := Lib.hid (refl_drewN w 1)
    clear h hm hk hv ht ha hb c2 c3
    rcases hlt : Op.bytesLess key b.least with _ | _
    · have HR := Lib.hid (show Av.set key value (.node a b) = Av.right a (b.set key value) by rw [Av.set, if_neg (by rw [hlt]; simp)])
      rw [HR.out]
      go_enter Tryd.func30, Tryd.ntmps30
      go_wp2_with fail
      refine (isleaf_any _ g w H0.out).mono ?_
      rintro e w1 ⟨rfl, rfl⟩
      have hnot : Av.isLeaf (.node a b) = false := rfl
      go_wp2_with fail
      refine wp_region_held_drew (S := (fun w' => w'.cell? ⟨g, 2, none⟩ = some (Ptr ga) ∧ w'.cell? ⟨g, 3, none⟩ = some (Ptr gb))) (by kernel_rfl) ?qs0 (fun hHeld => ?_)
      case qs0 => exact HTS.out _ HB.out
      refine held_take (i := 0) (v := ?q1v) rfl (by kernel_rfl) (by kernel_rfl) (by kernel_rfl) (fun _ _ _ h => h) (by rfl) ?q1y hHeld ?_
      case q1y => ((intro w _hSw; (try dsimp only at _hSw); go_simp); try (with_reducible rfl))
      try simp only [Act.put, List.setIfInBounds_toArray, List.set_cons_zero, List.set_cons_succ]
      refine held_take (i := 1) (v := ?q2v) rfl (by kernel_rfl) (by kernel_rfl) (by kernel_rfl) (fun _ _ _ h => h) (by rfl) ?q2y hHeld ?_
      case q2y => ((intro w _hSw; (try dsimp only at _hSw); go_simp); try (with_reducible rfl))
      try simp only [Act.put, List.setIfInBounds_toArray, List.set_cons_zero, List.set_cons_succ]
      refine held_take (i := 2) (v := ?q3v) rfl (by kernel_rfl) (by kernel_rfl) (by kernel_rfl) (fun _ _ _ h => h) (by rfl) ?q3y hHeld ?_
      case q3y => ((intro w _hSw; (try dsimp only at _hSw); go_simp); try (with_reducible rfl))
      try simp only [Act.put, List.setIfInBounds_toArray, List.set_cons_zero, List.set_cons_succ]
      refine held_take (i := 3) (v := ?q4v) rfl (by kernel_rfl) (by kernel_rfl) (by kernel_rfl) (fun _ _ _ h => h) (by rfl) ?q4y hHeld ?_
      case q4y => ((intro w _hSw; (try dsimp only at _hSw); go_simp); try (with_reducible rfl))
      try simp only [Act.put, List.setIfInBounds_toArray, List.set_cons_zero, List.set_cons_succ]
      refine held_take (i := 4) (v := ?q5v) rfl (by kernel_rfl) (by kernel_rfl) (by kernel_rfl) (fun _ _ _ h => h) (by rfl) ?q5y hHeld ?_
      case q5y => ((intro w _hSw; (try dsimp only at _hSw); go_simp); try (with_reducible rfl))
      try simp only [Act.put, List.setIfInBounds_toArray, List.set_cons_zero, List.set_cons_succ]
      refine held_take (i := 5) (v := ?q6v) rfl (by kernel_rfl) (by kernel_rfl) (by kernel_rfl) (fun _ _ _ h => h) (by rfl) ?q6y hHeld ?_
      case q6y => ((intro w _hSw; (try dsimp only at _hSw); go_simp); try (with_reducible rfl))
      try simp only [Act.put, List.setIfInBounds_toArray, List.set_cons_zero, List.set_cons_succ]
      refine held_take (i := 6) (v := ?q7v) rfl (by kernel_rfl) (by kernel_rfl) (by kernel_rfl) (fun _ _ _ h => h) (by rfl) ?q7y hHeld ?_
      case q7y => ((intro w _hSw; (try dsimp only at _hSw); go_simp); try (with_reducible rfl))
      try simp only [Act.put, List.setIfInBounds_toArray, List.set_cons_zero, List.set_cons_succ]
      refine held_take (i := 7) (v := ?q8v) rfl (by kernel_rfl) (by kernel_rfl) (by kernel_rfl) (fun _ _ _ h => h) (by rfl) ?q8y hHeld ?_
      case q8y => ((intro w _hSw; (try dsimp only at _hSw); go_simp); try (with_reducible rfl))
      try simp only [Act.put, List.setIfInBounds_toArray, List.set_cons_zero, List.set_cons_succ]
      refine held_take (i := 8) (v := ?q9v) rfl (by kernel_rfl) (by kernel_rfl) (by kernel_rfl) (fun _ _ _ h => h) (by rfl) ?q9y hHeld ?_
      case q9y => ((intro w _hSw; (try dsimp only at _hSw); go_simp); try (with_reducible rfl))
      try simp only [Act.put, List.setIfInBounds_toArray, List.set_cons_zero, List.set_cons_succ]
      refine held_take (i := 9) (v := ?q10v) rfl (by kernel_rfl) (by kernel_rfl) (by kernel_rfl) (fun _ _ _ h => h) (by rfl) ?q10y hHeld ?_
      case q10y => ((intro w _hSw; (try dsimp only at _hSw); go_simp); try (with_reducible rfl))
      try simp only [Act.put, List.setIfInBounds_toArray, List.set_cons_zero, List.set_cons_succ]
      refine held_step (i := 10) rfl (by kernel_rfl) (by rfl) (fun K hK => ?_)
      go_simp
      refine (IHb.out key value gb _ (HT.out.2.1.below HB.out) (by have := HM.out; simp only [Av.many] at this; omega) HM.out.2.1 HM.out.2.2 (HT.out.2.2.below HB.out HT.out.2.2.lt)).mono ?_
      rintro e wc ⟨p1, rfl, hn, hb⟩
      have HN := Lib.hid hn
      have HB := Lib.hid (below_then HB.out HB.out.size hb)
      clear hn hb
      go_wp2_with fail
      have hHeld := HTS.out _ HB.out
      refine hK.out _ _ (HTS.out _ HB.out) ?_
      clear hK K
      try simp only [Act.put, List.setIfInBounds_toArray, List.set_cons_zero, List.set_cons_succ]
      refine held_step (i := 11) rfl (by kernel_rfl) (by rfl) (fun K hK => ?_)
      go_simp
      refine (right_any a (b.set key value) ga p1 _ (HT.out.1.below HB.out) HN.out (by have := HM.out.1; have := Av.many_set key value b; simp only [Av.many] at *; omega) (HT.out.2.2.below HB.out HT.out.2.2.lt)).mono ?_
      rintro e wc ⟨p2, rfl, hn, hb⟩
      have HN := Lib.hid hn
      have HB := Lib.hid (below_then HB.out HB.out.size hb)
      clear hn hb
      go_wp2_with fail
      have hHeld := HTS.out _ HB.out
      refine hK.out _ _ (HTS.out _ HB.out) ?_
      clear hK K
      try simp only [Act.put, List.setIfInBounds_toArray, List.set_cons_zero, List.set_cons_succ]
      refine held_take (i := 12) (v := ?q11v) rfl (by kernel_rfl) (by kernel_rfl) (by kernel_rfl) (fun _ _ _ h => h) (by rfl) ?q11y hHeld ?_
      case q11y => ((intro w _hSw; (try dsimp only at _hSw); go_simp); try (with_reducible rfl))
      try simp only [Act.put, List.setIfInBounds_toArray, List.set_cons_zero, List.set_cons_succ]
      refine wpAnyH_done (by kernel_rfl) ?_ _
      go_wp2
      go_ret
      exact ⟨_, rfl, HN.out, HB.out⟩
    · have HR := Lib.hid (show Av.set key value (.node a b) = Av.right (a.set key value) b by rw [Av.set, if_pos hlt])
      rw [HR.out]
      go_enter Tryd.func30, Tryd.ntmps30
      go_wp2_with fail
      refine (isleaf_any _ g w H0.out).mono ?_
      rintro e w1 ⟨rfl, rfl⟩
      have hnot : Av.isLeaf (.node a b) = false := rfl
      go_wp2_with fail
      refine wp_region_held_drew (S := (fun w' => w'.cell? ⟨g, 2, none⟩ = some (Ptr ga) ∧ w'.cell? ⟨g, 3, none⟩ = some (Ptr gb))) (by kernel_rfl) ?rs0 (fun hHeld => ?_)
      case rs0 => exact HTS.out _ HB.out
      refine held_take (i := 0) (v := ?r1v) rfl (by kernel_rfl) (by kernel_rfl) (by kernel_rfl) (fun _ _ _ h => h) (by rfl) ?r1y hHeld ?_
      case r1y => ((intro w _hSw; (try dsimp only at _hSw); go_simp); try (with_reducible rfl))
      try simp only [Act.put, List.setIfInBounds_toArray, List.set_cons_zero, List.set_cons_succ]
      refine held_take (i := 1) (v := ?r2v) rfl (by kernel_rfl) (by kernel_rfl) (by kernel_rfl) (fun _ _ _ h => h) (by rfl) ?r2y hHeld ?_
      case r2y => ((intro w _hSw; (try dsimp only at _hSw); go_simp); try (with_reducible rfl))
      try simp only [Act.put, List.setIfInBounds_toArray, List.set_cons_zero, List.set_cons_succ]
      refine held_take (i := 2) (v := ?r3v) rfl (by kernel_rfl) (by kernel_rfl) (by kernel_rfl) (fun _ _ _ h => h) (by rfl) ?r3y hHeld ?_
      case r3y => ((intro w _hSw; (try dsimp only at _hSw); go_simp); try (with_reducible rfl))
      try simp only [Act.put, List.setIfInBounds_toArray, List.set_cons_zero, List.set_cons_succ]
      refine held_take (i := 3) (v := ?r4v) rfl (by kernel_rfl) (by kernel_rfl) (by kernel_rfl) (fun _ _ _ h => h) (by rfl) ?r4y hHeld ?_
      case r4y => ((intro w _hSw; (try dsimp only at _hSw); go_simp); try (with_reducible rfl))
      try simp only [Act.put, List.setIfInBounds_toArray, List.set_cons_zero, List.set_cons_succ]
      refine held_take (i := 4) (v := ?r5v) rfl (by kernel_rfl) (by kernel_rfl) (by kernel_rfl) (fun _ _ _ h => h) (by rfl) ?r5y hHeld ?_
      case r5y => ((intro w _hSw; (try dsimp only at _hSw); go_simp); try (with_reducible rfl))
      try simp only [Act.put, List.setIfInBounds_toArray, List.set_cons_zero, List.set_cons_succ]
      refine held_take (i := 5) (v := ?r6v) rfl (by kernel_rfl) (by kernel_rfl) (by kernel_rfl) (fun _ _ _ h => h) (by rfl) ?r6y hHeld ?_
      case r6y => ((intro w _hSw; (try dsimp only at _hSw); go_simp); try (with_reducible rfl))
      try simp only [Act.put, List.setIfInBounds_toArray, List.set_cons_zero, List.set_cons_succ]
      refine held_take (i := 7) (v := ?r7v) rfl (by kernel_rfl) (by kernel_rfl) (by kernel_rfl) (fun _ _ _ h => h) (by rfl) ?r7y hHeld ?_
      case r7y => ((intro w _hSw; (try dsimp only at _hSw); go_simp); try (with_reducible rfl))
      try simp only [Act.put, List.setIfInBounds_toArray, List.set_cons_zero, List.set_cons_succ]
      refine held_take (i := 8) (v := ?r8v) rfl (by kernel_rfl) (by kernel_rfl) (by kernel_rfl) (fun _ _ _ h => h) (by rfl) ?r8y hHeld ?_
      case r8y => ((intro w _hSw; (try dsimp only at _hSw); go_simp); try (with_reducible rfl))
      try simp only [Act.put, List.setIfInBounds_toArray, List.set_cons_zero, List.set_cons_succ]
      refine held_take (i := 9) (v := ?r9v) rfl (by kernel_rfl) (by kernel_rfl) (by kernel_rfl) (fun _ _ _ h => h) (by rfl) ?r9y hHeld ?_
      case r9y => ((intro w _hSw; (try dsimp only at _hSw); go_simp); try (with_reducible rfl))
      try simp only [Act.put, List.setIfInBounds_toArray, List.set_cons_zero, List.set_cons_succ]
      refine held_take (i := 10) (v := ?r10v) rfl (by kernel_rfl) (by kernel_rfl) (by kernel_rfl) (fun _ _ _ h => h) (by rfl) ?r10y hHeld ?_
      case r10y => ((intro w _hSw; (try dsimp only at _hSw); go_simp); try (with_reducible rfl))
      try simp only [Act.put, List.setIfInBounds_toArray, List.set_cons_zero, List.set_cons_succ]
      refine held_step (i := 6) rfl (by kernel_rfl) (by rfl) (fun K hK => ?_)
      go_simp
      refine (IHa.out key value ga _ (HT.out.1.below HB.out) (by have := HM.out; simp only [Av.many] at this; omega) HM.out.2.1 HM.out.2.2 (HT.out.2.2.below HB.out HT.out.2.2.lt)).mono ?_
      rintro e wc ⟨p1, rfl, hn, hb⟩
      have HN := Lib.hid hn
      have HB := Lib.hid (below_then HB.out HB.out.size hb)
      clear hn hb
      go_wp2_with fail
      have hHeld := HTS.out _ HB.out
      refine hK.out _ _ (HTS.out _ HB.out) ?_
      clear hK K
      try simp only [Act.put, List.setIfInBounds_toArray, List.set_cons_zero, List.set_cons_succ]
      refine held_step (i := 11) rfl (by kernel_rfl) (by rfl) (fun K hK => ?_)
      go_simp
      refine (right_any (a.set key value) b p1 gb _ HN.out (HT.out.2.1.below HB.out) (by have := HM.out.1; have := Av.many_set key value a; simp only [Av.many] at *; omega) (HT.out.2.2.below HB.out HT.out.2.2.lt)).mono ?_
      rintro e wc ⟨p2, rfl, hn, hb⟩
      have HN := Lib.hid hn
      have HB := Lib.hid (below_then HB.out HB.out.size hb)
      clear hn hb
      go_wp2_with fail
      have hHeld := HTS.out _ HB.out
      refine hK.out _ _ (HTS.out _ HB.out) ?_
      clear hK K
      try simp only [Act.put, List.setIfInBounds_toArray, List.set_cons_zero, List.set_cons_succ]
      refine held_take (i := 12) (v := ?r11v) rfl (by kernel_rfl) (by kernel_rfl) (by kernel_rfl) (fun _ _ _ h => h) (by rfl) ?r11y hHeld ?_
      case r11y => ((intro w _hSw; (try dsimp only at _hSw); go_simp); try (with_reducible rfl))
      try simp only [Act.put, List.setIfInBounds_toArray, List.set_cons_zero, List.set_cons_succ]
      refine wpAnyH_done (by kernel_rfl) ?_ _
      go_wp2
      go_ret
      exact ⟨_, rfl, HN.out, HB.out⟩
theorem set_any (t : Option Av) (v : Value) (key value : Str) (w : World) (h : TreeO w t v) (hm : manyO t ≤ 900000) (hk : key.length ≤ 2000000) (hv : value.length ≤ 2000000) (ht : TabLaid w) :
    Calls Tryd.prog 30 #[v, S8 key, S8 value] w fun e w' => ∃ g, e = .returned (Ptr g) ∧ TreeAt w' (setO key value t) g ∧ Below w.heap.size w w' := by
  cases t with
  | some t =>
    obtain ⟨g, rfl, h⟩ := h
    exact set_tree t key value g w h hm hk hv ht
  | none =>
    obtain rfl : v = .pointer none := h
    have HT := Lib.hid (And.intro hk (And.intro hv ht))
    clear hm hk hv ht
    go_enter Tryd.func30, Tryd.ntmps30
    go_wp2_with fail
    refine (newleaf_to key value _ HT.out.1 HT.out.2.1 HT.out.2.2).mono ?_
    rintro e w2 ⟨p, rfl, hn, hb⟩
    have HN := Lib.hid (And.intro hn hb)
    clear hn hb
    go_wp2
    go_ret
    exact ⟨_, rfl, HN.out.1, HN.out.2⟩
end Go.Proofs.YtdekealpachhmaaDoor
