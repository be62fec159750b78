/- Layer 7: drop, Drop, Root by their contracts. -/
import Derived.Test.YtdekealpachhmaaDoorAvSet
import Derived.Test.YtdekealpachhmaaDoorAvG
namespace Go.Proofs.YtdekealpachhmaaDoor
open Go Go.RowKit Go.Isth

def DropCalls (t : Av) : Prop := ∀ (key : Str) (g : Nat) (w : World), TreeAt w t g → t.many ≤ 900000 → TabLaid w →
    Calls Tryd.prog 66 #[Ptr g, S8 key] w fun e w' => ∃ v, e = .returned v ∧ TreeO w' (t.drop key) v ∧ Below w.heap.size w w'
theorem many_drop_some {key : Str} {t u : Av} (h : t.drop key = some u) : u.many ≤ t.many := by
  have := Av.many_drop key t
  rw [h] at this
  exact this
theorem treeO_none {w : World} {v : Value} {t : Option Av} (h : TreeO w t v) (ht : t = none) : v = .pointer none := by subst ht; exact h
theorem treeO_some {w : World} {v : Value} {t : Option Av} {u : Av} (h : TreeO w t v) (ht : t = some u) : ∃ g, v = Ptr g ∧ TreeAt w u g := by subst ht; exact h
set_option maxRecDepth 100000 in
set_option maxHeartbeats 2000000 in
theorem drop_tree : ∀ t : Av, DropCalls t
  | .leaf k v => by
    intro key g w h hm ht
    have HT := Lib.hid h
    clear h hm ht
    go_enter Tryd.func66, Tryd.ntmps66
    go_wp2_with fail
    refine (isleaf_any _ g w HT.out).mono ?_
    rintro e w1 ⟨rfl, rfl⟩
    have hnot : Av.isLeaf (.leaf k v) = true := rfl
    go_wp2
    go_ret
    exact ⟨_, rfl, rfl, Below.refl _ _⟩
  | .node a b => by
    have IHa := Lib.hid (drop_tree a)
    have IHb := Lib.hid (drop_tree b)
    intro key g w h hm ht
    obtain ⟨ga, gb, c2, c3, ha, hb⟩ := node_cells h
    have hc0 : w.cell? ⟨g, 0, none⟩ = some (S8 b.least) := (tree_cells h).1
    have HTS : Hid (∀ w', Below w.heap.size w w' → w'.cell? ⟨g, 2, none⟩ = some (Ptr ga) ∧ w'.cell? ⟨g, 3, none⟩ = some (Ptr gb)) := Lib.hid fun w' h => ⟨cell_below c2 h, cell_below c3 h⟩
    have H0 := Lib.hid h
    have HT := Lib.hid (And.intro ha (And.intro hb ht))
    have HM := Lib.hid (show a.many + b.many ≤ 900000 from hm)
    have HB : Hid (Below w.heap.size w (w.drewN 1)) := Lib.hid (refl_drewN w 1)
    clear h hm ht ha hb c2 c3
    rcases hlt : Op.bytesLess key b.least with _ | _
    · rcases hd : b.drop key with _ | b'
      · have HR := Lib.hid (show Av.drop key (.node a b) = some a by rw [Av.drop, if_neg (by rw [hlt]; simp), hd])
        have HD := Lib.hid hd
        clear hd
        rw [HR.out]
        go_enter Tryd.func66, Tryd.ntmps66
        go_wp2_with fail
        refine (isleaf_any _ g w H0.out).mono ?_
        rintro e w1 ⟨rfl, rfl⟩
        have hnot : Av.isLeaf (.node a b) = false := rfl
        go_wp2_with fail
        refine wp_region_held_drew (S := (fun w' => w'.cell? ⟨g, 2, none⟩ = some (Ptr ga) ∧ w'.cell? ⟨g, 3, none⟩ = some (Ptr gb))) (by kernel_rfl) ?qs0 (fun hHeld => ?_)
        case qs0 => exact HTS.out _ HB.out
        refine held_take (i := 0) (v := ?q1v) rfl (by kernel_rfl) (by kernel_rfl) (by kernel_rfl) (fun _ _ _ h => h) (by rfl) ?q1y hHeld ?_
        case q1y => ((intro w _hSw; (try dsimp only at _hSw); go_simp); try (with_reducible rfl))
        try simp only [Act.put, List.setIfInBounds_toArray, List.set_cons_zero, List.set_cons_succ]
        refine held_take (i := 1) (v := ?q2v) rfl (by kernel_rfl) (by kernel_rfl) (by kernel_rfl) (fun _ _ _ h => h) (by rfl) ?q2y hHeld ?_
        case q2y => ((intro w _hSw; (try dsimp only at _hSw); go_simp); try (with_reducible rfl))
        try simp only [Act.put, List.setIfInBounds_toArray, List.set_cons_zero, List.set_cons_succ]
        refine held_take (i := 2) (v := ?q3v) rfl (by kernel_rfl) (by kernel_rfl) (by kernel_rfl) (fun _ _ _ h => h) (by rfl) ?q3y hHeld ?_
        case q3y => ((intro w _hSw; (try dsimp only at _hSw); go_simp); try (with_reducible rfl))
        try simp only [Act.put, List.setIfInBounds_toArray, List.set_cons_zero, List.set_cons_succ]
        refine held_take (i := 3) (v := ?q4v) rfl (by kernel_rfl) (by kernel_rfl) (by kernel_rfl) (fun _ _ _ h => h) (by rfl) ?q4y hHeld ?_
        case q4y => ((intro w _hSw; (try dsimp only at _hSw); go_simp); try (with_reducible rfl))
        try simp only [Act.put, List.setIfInBounds_toArray, List.set_cons_zero, List.set_cons_succ]
        refine held_take (i := 4) (v := ?q5v) rfl (by kernel_rfl) (by kernel_rfl) (by kernel_rfl) (fun _ _ _ h => h) (by rfl) ?q5y hHeld ?_
        case q5y => ((intro w _hSw; (try dsimp only at _hSw); go_simp); try (with_reducible rfl))
        try simp only [Act.put, List.setIfInBounds_toArray, List.set_cons_zero, List.set_cons_succ]
        refine held_take (i := 5) (v := ?q6v) rfl (by kernel_rfl) (by kernel_rfl) (by kernel_rfl) (fun _ _ _ h => h) (by rfl) ?q6y hHeld ?_
        case q6y => ((intro w _hSw; (try dsimp only at _hSw); go_simp); try (with_reducible rfl))
        try simp only [Act.put, List.setIfInBounds_toArray, List.set_cons_zero, List.set_cons_succ]
        refine held_take (i := 6) (v := ?q7v) rfl (by kernel_rfl) (by kernel_rfl) (by kernel_rfl) (fun _ _ _ h => h) (by rfl) ?q7y hHeld ?_
        case q7y => ((intro w _hSw; (try dsimp only at _hSw); go_simp); try (with_reducible rfl))
        try simp only [Act.put, List.setIfInBounds_toArray, List.set_cons_zero, List.set_cons_succ]
        refine held_take (i := 7) (v := ?q8v) rfl (by kernel_rfl) (by kernel_rfl) (by kernel_rfl) (fun _ _ _ h => h) (by rfl) ?q8y hHeld ?_
        case q8y => ((intro w _hSw; (try dsimp only at _hSw); go_simp); try (with_reducible rfl))
        try simp only [Act.put, List.setIfInBounds_toArray, List.set_cons_zero, List.set_cons_succ]
        refine held_take (i := 8) (v := ?q9v) rfl (by kernel_rfl) (by kernel_rfl) (by kernel_rfl) (fun _ _ _ h => h) (by rfl) ?q9y hHeld ?_
        case q9y => ((intro w _hSw; (try dsimp only at _hSw); go_simp); try (with_reducible rfl))
        try simp only [Act.put, List.setIfInBounds_toArray, List.set_cons_zero, List.set_cons_succ]
        refine held_take (i := 9) (v := ?q10v) rfl (by kernel_rfl) (by kernel_rfl) (by kernel_rfl) (fun _ _ _ h => h) (by rfl) ?q10y hHeld ?_
        case q10y => ((intro w _hSw; (try dsimp only at _hSw); go_simp); try (with_reducible rfl))
        try simp only [Act.put, List.setIfInBounds_toArray, List.set_cons_zero, List.set_cons_succ]
        refine wpAnyH_done (by kernel_rfl) ?_ _
        clear hHeld
        go_wp2_with fail
        refine (IHb.out key gb _ (HT.out.2.1.below HB.out) (by have := HM.out; omega) (HT.out.2.2.below HB.out HT.out.2.2.lt)).mono ?_
        rintro e wc ⟨v, rfl, hn, hb⟩
        obtain rfl := treeO_none hn HD.out
        have HN := Lib.hid (below_then HB.out HB.out.size hb)
        clear hn hb
        go_wp2
        go_ret
        exact ⟨_, rfl, ⟨_, rfl, HT.out.1.below HN.out⟩, HN.out⟩
      · have HR := Lib.hid (show Av.drop key (.node a b) = some (Av.right a b') by rw [Av.drop, if_neg (by rw [hlt]; simp), hd])
        have HD := Lib.hid hd
        clear hd
        rw [HR.out]
        go_enter Tryd.func66, Tryd.ntmps66
        go_wp2_with fail
        refine (isleaf_any _ g w H0.out).mono ?_
        rintro e w1 ⟨rfl, rfl⟩
        have hnot : Av.isLeaf (.node a b) = false := rfl
        go_wp2_with fail
        refine wp_region_held_drew (S := (fun w' => w'.cell? ⟨g, 2, none⟩ = some (Ptr ga) ∧ w'.cell? ⟨g, 3, none⟩ = some (Ptr gb))) (by kernel_rfl) ?rs0 (fun hHeld => ?_)
        case rs0 => exact HTS.out _ HB.out
        refine held_take (i := 0) (v := ?r1v) rfl (by kernel_rfl) (by kernel_rfl) (by kernel_rfl) (fun _ _ _ h => h) (by rfl) ?r1y hHeld ?_
        case r1y => ((intro w _hSw; (try dsimp only at _hSw); go_simp); try (with_reducible rfl))
        try simp only [Act.put, List.setIfInBounds_toArray, List.set_cons_zero, List.set_cons_succ]
        refine held_take (i := 1) (v := ?r2v) rfl (by kernel_rfl) (by kernel_rfl) (by kernel_rfl) (fun _ _ _ h => h) (by rfl) ?r2y hHeld ?_
        case r2y => ((intro w _hSw; (try dsimp only at _hSw); go_simp); try (with_reducible rfl))
        try simp only [Act.put, List.setIfInBounds_toArray, List.set_cons_zero, List.set_cons_succ]
        refine held_take (i := 2) (v := ?r3v) rfl (by kernel_rfl) (by kernel_rfl) (by kernel_rfl) (fun _ _ _ h => h) (by rfl) ?r3y hHeld ?_
        case r3y => ((intro w _hSw; (try dsimp only at _hSw); go_simp); try (with_reducible rfl))
        try simp only [Act.put, List.setIfInBounds_toArray, List.set_cons_zero, List.set_cons_succ]
        refine held_take (i := 3) (v := ?r4v) rfl (by kernel_rfl) (by kernel_rfl) (by kernel_rfl) (fun _ _ _ h => h) (by rfl) ?r4y hHeld ?_
        case r4y => ((intro w _hSw; (try dsimp only at _hSw); go_simp); try (with_reducible rfl))
        try simp only [Act.put, List.setIfInBounds_toArray, List.set_cons_zero, List.set_cons_succ]
        refine held_take (i := 4) (v := ?r5v) rfl (by kernel_rfl) (by kernel_rfl) (by kernel_rfl) (fun _ _ _ h => h) (by rfl) ?r5y hHeld ?_
        case r5y => ((intro w _hSw; (try dsimp only at _hSw); go_simp); try (with_reducible rfl))
        try simp only [Act.put, List.setIfInBounds_toArray, List.set_cons_zero, List.set_cons_succ]
        refine held_take (i := 5) (v := ?r6v) rfl (by kernel_rfl) (by kernel_rfl) (by kernel_rfl) (fun _ _ _ h => h) (by rfl) ?r6y hHeld ?_
        case r6y => ((intro w _hSw; (try dsimp only at _hSw); go_simp); try (with_reducible rfl))
        try simp only [Act.put, List.setIfInBounds_toArray, List.set_cons_zero, List.set_cons_succ]
        refine held_take (i := 6) (v := ?r7v) rfl (by kernel_rfl) (by kernel_rfl) (by kernel_rfl) (fun _ _ _ h => h) (by rfl) ?r7y hHeld ?_
        case r7y => ((intro w _hSw; (try dsimp only at _hSw); go_simp); try (with_reducible rfl))
        try simp only [Act.put, List.setIfInBounds_toArray, List.set_cons_zero, List.set_cons_succ]
        refine held_take (i := 7) (v := ?r8v) rfl (by kernel_rfl) (by kernel_rfl) (by kernel_rfl) (fun _ _ _ h => h) (by rfl) ?r8y hHeld ?_
        case r8y => ((intro w _hSw; (try dsimp only at _hSw); go_simp); try (with_reducible rfl))
        try simp only [Act.put, List.setIfInBounds_toArray, List.set_cons_zero, List.set_cons_succ]
        refine held_take (i := 8) (v := ?r9v) rfl (by kernel_rfl) (by kernel_rfl) (by kernel_rfl) (fun _ _ _ h => h) (by rfl) ?r9y hHeld ?_
        case r9y => ((intro w _hSw; (try dsimp only at _hSw); go_simp); try (with_reducible rfl))
        try simp only [Act.put, List.setIfInBounds_toArray, List.set_cons_zero, List.set_cons_succ]
        refine held_take (i := 9) (v := ?r10v) rfl (by kernel_rfl) (by kernel_rfl) (by kernel_rfl) (fun _ _ _ h => h) (by rfl) ?r10y hHeld ?_
        case r10y => ((intro w _hSw; (try dsimp only at _hSw); go_simp); try (with_reducible rfl))
        try simp only [Act.put, List.setIfInBounds_toArray, List.set_cons_zero, List.set_cons_succ]
        refine wpAnyH_done (by kernel_rfl) ?_ _
        clear hHeld
        go_wp2_with fail
        refine (IHb.out key gb _ (HT.out.2.1.below HB.out) (by have := HM.out; omega) (HT.out.2.2.below HB.out HT.out.2.2.lt)).mono ?_
        rintro e wc ⟨v, rfl, hn, hb⟩
        obtain ⟨p, rfl, hp⟩ := treeO_some hn HD.out
        have HN := Lib.hid (And.intro hp (below_then HB.out HB.out.size hb))
        clear hn hb hp
        go_wp2_with fail
        refine (right_any a b' ga p _ (HT.out.1.below HN.out.2) HN.out.1 (by have := HM.out; have := many_drop_some HD.out; omega) (HT.out.2.2.below HN.out.2 HT.out.2.2.lt)).mono ?_
        rintro e wd ⟨p2, rfl, hn, hb⟩
        have HN2 := Lib.hid (And.intro hn (below_then HN.out.2 HN.out.2.size hb))
        clear hn hb
        go_wp2
        go_ret
        exact ⟨_, rfl, ⟨_, rfl, HN2.out.1⟩, HN2.out.2⟩
    · rcases hd : a.drop key with _ | a'
      · have HR := Lib.hid (show Av.drop key (.node a b) = some b by rw [Av.drop, if_pos hlt, hd])
        have HD := Lib.hid hd
        clear hd
        rw [HR.out]
        go_enter Tryd.func66, Tryd.ntmps66
        go_wp2_with fail
        refine (isleaf_any _ g w H0.out).mono ?_
        rintro e w1 ⟨rfl, rfl⟩
        have hnot : Av.isLeaf (.node a b) = false := rfl
        go_wp2_with fail
        refine wp_region_held_drew (S := (fun w' => w'.cell? ⟨g, 2, none⟩ = some (Ptr ga) ∧ w'.cell? ⟨g, 3, none⟩ = some (Ptr gb))) (by kernel_rfl) ?ss0 (fun hHeld => ?_)
        case ss0 => exact HTS.out _ HB.out
        refine held_take (i := 0) (v := ?s1v) rfl (by kernel_rfl) (by kernel_rfl) (by kernel_rfl) (fun _ _ _ h => h) (by rfl) ?s1y hHeld ?_
        case s1y => ((intro w _hSw; (try dsimp only at _hSw); go_simp); try (with_reducible rfl))
        try simp only [Act.put, List.setIfInBounds_toArray, List.set_cons_zero, List.set_cons_succ]
        refine held_take (i := 1) (v := ?s2v) rfl (by kernel_rfl) (by kernel_rfl) (by kernel_rfl) (fun _ _ _ h => h) (by rfl) ?s2y hHeld ?_
        case s2y => ((intro w _hSw; (try dsimp only at _hSw); go_simp); try (with_reducible rfl))
        try simp only [Act.put, List.setIfInBounds_toArray, List.set_cons_zero, List.set_cons_succ]
        refine held_take (i := 2) (v := ?s3v) rfl (by kernel_rfl) (by kernel_rfl) (by kernel_rfl) (fun _ _ _ h => h) (by rfl) ?s3y hHeld ?_
        case s3y => ((intro w _hSw; (try dsimp only at _hSw); go_simp); try (with_reducible rfl))
        try simp only [Act.put, List.setIfInBounds_toArray, List.set_cons_zero, List.set_cons_succ]
        refine held_take (i := 3) (v := ?s4v) rfl (by kernel_rfl) (by kernel_rfl) (by kernel_rfl) (fun _ _ _ h => h) (by rfl) ?s4y hHeld ?_
        case s4y => ((intro w _hSw; (try dsimp only at _hSw); go_simp); try (with_reducible rfl))
        try simp only [Act.put, List.setIfInBounds_toArray, List.set_cons_zero, List.set_cons_succ]
        refine held_take (i := 4) (v := ?s5v) rfl (by kernel_rfl) (by kernel_rfl) (by kernel_rfl) (fun _ _ _ h => h) (by rfl) ?s5y hHeld ?_
        case s5y => ((intro w _hSw; (try dsimp only at _hSw); go_simp); try (with_reducible rfl))
        try simp only [Act.put, List.setIfInBounds_toArray, List.set_cons_zero, List.set_cons_succ]
        refine held_take (i := 5) (v := ?s6v) rfl (by kernel_rfl) (by kernel_rfl) (by kernel_rfl) (fun _ _ _ h => h) (by rfl) ?s6y hHeld ?_
        case s6y => ((intro w _hSw; (try dsimp only at _hSw); go_simp); try (with_reducible rfl))
        try simp only [Act.put, List.setIfInBounds_toArray, List.set_cons_zero, List.set_cons_succ]
        refine held_take (i := 6) (v := ?s7v) rfl (by kernel_rfl) (by kernel_rfl) (by kernel_rfl) (fun _ _ _ h => h) (by rfl) ?s7y hHeld ?_
        case s7y => ((intro w _hSw; (try dsimp only at _hSw); go_simp); try (with_reducible rfl))
        try simp only [Act.put, List.setIfInBounds_toArray, List.set_cons_zero, List.set_cons_succ]
        refine held_take (i := 7) (v := ?s8v) rfl (by kernel_rfl) (by kernel_rfl) (by kernel_rfl) (fun _ _ _ h => h) (by rfl) ?s8y hHeld ?_
        case s8y => ((intro w _hSw; (try dsimp only at _hSw); go_simp); try (with_reducible rfl))
        try simp only [Act.put, List.setIfInBounds_toArray, List.set_cons_zero, List.set_cons_succ]
        refine held_take (i := 8) (v := ?s9v) rfl (by kernel_rfl) (by kernel_rfl) (by kernel_rfl) (fun _ _ _ h => h) (by rfl) ?s9y hHeld ?_
        case s9y => ((intro w _hSw; (try dsimp only at _hSw); go_simp); try (with_reducible rfl))
        try simp only [Act.put, List.setIfInBounds_toArray, List.set_cons_zero, List.set_cons_succ]
        refine held_take (i := 9) (v := ?s10v) rfl (by kernel_rfl) (by kernel_rfl) (by kernel_rfl) (fun _ _ _ h => h) (by rfl) ?s10y hHeld ?_
        case s10y => ((intro w _hSw; (try dsimp only at _hSw); go_simp); try (with_reducible rfl))
        try simp only [Act.put, List.setIfInBounds_toArray, List.set_cons_zero, List.set_cons_succ]
        refine wpAnyH_done (by kernel_rfl) ?_ _
        clear hHeld
        go_wp2_with fail
        refine (IHa.out key ga _ (HT.out.1.below HB.out) (by have := HM.out; omega) (HT.out.2.2.below HB.out HT.out.2.2.lt)).mono ?_
        rintro e wc ⟨v, rfl, hn, hb⟩
        obtain rfl := treeO_none hn HD.out
        have HN := Lib.hid (below_then HB.out HB.out.size hb)
        clear hn hb
        go_wp2
        go_ret
        exact ⟨_, rfl, ⟨_, rfl, HT.out.2.1.below HN.out⟩, HN.out⟩
      · have HR := Lib.hid (show Av.drop key (.node a b) = some (Av.right a' b) by rw [Av.drop, if_pos hlt, hd])
        have HD := Lib.hid hd
        clear hd
        rw [HR.out]
        go_enter Tryd.func66, Tryd.ntmps66
        go_wp2_with fail
        refine (isleaf_any _ g w H0.out).mono ?_
        rintro e w1 ⟨rfl, rfl⟩
        have hnot : Av.isLeaf (.node a b) = false := rfl
        go_wp2_with fail
        refine wp_region_held_drew (S := (fun w' => w'.cell? ⟨g, 2, none⟩ = some (Ptr ga) ∧ w'.cell? ⟨g, 3, none⟩ = some (Ptr gb))) (by kernel_rfl) ?ts0 (fun hHeld => ?_)
        case ts0 => exact HTS.out _ HB.out
        refine held_take (i := 0) (v := ?t1v) rfl (by kernel_rfl) (by kernel_rfl) (by kernel_rfl) (fun _ _ _ h => h) (by rfl) ?t1y hHeld ?_
        case t1y => ((intro w _hSw; (try dsimp only at _hSw); go_simp); try (with_reducible rfl))
        try simp only [Act.put, List.setIfInBounds_toArray, List.set_cons_zero, List.set_cons_succ]
        refine held_take (i := 1) (v := ?t2v) rfl (by kernel_rfl) (by kernel_rfl) (by kernel_rfl) (fun _ _ _ h => h) (by rfl) ?t2y hHeld ?_
        case t2y => ((intro w _hSw; (try dsimp only at _hSw); go_simp); try (with_reducible rfl))
        try simp only [Act.put, List.setIfInBounds_toArray, List.set_cons_zero, List.set_cons_succ]
        refine held_take (i := 2) (v := ?t3v) rfl (by kernel_rfl) (by kernel_rfl) (by kernel_rfl) (fun _ _ _ h => h) (by rfl) ?t3y hHeld ?_
        case t3y => ((intro w _hSw; (try dsimp only at _hSw); go_simp); try (with_reducible rfl))
        try simp only [Act.put, List.setIfInBounds_toArray, List.set_cons_zero, List.set_cons_succ]
        refine held_take (i := 3) (v := ?t4v) rfl (by kernel_rfl) (by kernel_rfl) (by kernel_rfl) (fun _ _ _ h => h) (by rfl) ?t4y hHeld ?_
        case t4y => ((intro w _hSw; (try dsimp only at _hSw); go_simp); try (with_reducible rfl))
        try simp only [Act.put, List.setIfInBounds_toArray, List.set_cons_zero, List.set_cons_succ]
        refine held_take (i := 4) (v := ?t5v) rfl (by kernel_rfl) (by kernel_rfl) (by kernel_rfl) (fun _ _ _ h => h) (by rfl) ?t5y hHeld ?_
        case t5y => ((intro w _hSw; (try dsimp only at _hSw); go_simp); try (with_reducible rfl))
        try simp only [Act.put, List.setIfInBounds_toArray, List.set_cons_zero, List.set_cons_succ]
        refine held_take (i := 5) (v := ?t6v) rfl (by kernel_rfl) (by kernel_rfl) (by kernel_rfl) (fun _ _ _ h => h) (by rfl) ?t6y hHeld ?_
        case t6y => ((intro w _hSw; (try dsimp only at _hSw); go_simp); try (with_reducible rfl))
        try simp only [Act.put, List.setIfInBounds_toArray, List.set_cons_zero, List.set_cons_succ]
        refine held_take (i := 6) (v := ?t7v) rfl (by kernel_rfl) (by kernel_rfl) (by kernel_rfl) (fun _ _ _ h => h) (by rfl) ?t7y hHeld ?_
        case t7y => ((intro w _hSw; (try dsimp only at _hSw); go_simp); try (with_reducible rfl))
        try simp only [Act.put, List.setIfInBounds_toArray, List.set_cons_zero, List.set_cons_succ]
        refine held_take (i := 7) (v := ?t8v) rfl (by kernel_rfl) (by kernel_rfl) (by kernel_rfl) (fun _ _ _ h => h) (by rfl) ?t8y hHeld ?_
        case t8y => ((intro w _hSw; (try dsimp only at _hSw); go_simp); try (with_reducible rfl))
        try simp only [Act.put, List.setIfInBounds_toArray, List.set_cons_zero, List.set_cons_succ]
        refine held_take (i := 8) (v := ?t9v) rfl (by kernel_rfl) (by kernel_rfl) (by kernel_rfl) (fun _ _ _ h => h) (by rfl) ?t9y hHeld ?_
        case t9y => ((intro w _hSw; (try dsimp only at _hSw); go_simp); try (with_reducible rfl))
        try simp only [Act.put, List.setIfInBounds_toArray, List.set_cons_zero, List.set_cons_succ]
        refine held_take (i := 9) (v := ?t10v) rfl (by kernel_rfl) (by kernel_rfl) (by kernel_rfl) (fun _ _ _ h => h) (by rfl) ?t10y hHeld ?_
        case t10y => ((intro w _hSw; (try dsimp only at _hSw); go_simp); try (with_reducible rfl))
        try simp only [Act.put, List.setIfInBounds_toArray, List.set_cons_zero, List.set_cons_succ]
        refine wpAnyH_done (by kernel_rfl) ?_ _
        clear hHeld
        go_wp2_with fail
        refine (IHa.out key ga _ (HT.out.1.below HB.out) (by have := HM.out; omega) (HT.out.2.2.below HB.out HT.out.2.2.lt)).mono ?_
        rintro e wc ⟨v, rfl, hn, hb⟩
        obtain ⟨p, rfl, hp⟩ := treeO_some hn HD.out
        have HN := Lib.hid (And.intro hp (below_then HB.out HB.out.size hb))
        clear hn hb hp
        go_wp2_with fail
        refine (right_any a' b p gb _ HN.out.1 (HT.out.2.1.below HN.out.2) (by have := HM.out; have := many_drop_some HD.out; omega) (HT.out.2.2.below HN.out.2 HT.out.2.2.lt)).mono ?_
        rintro e wd ⟨p2, rfl, hn, hb⟩
        have HN2 := Lib.hid (And.intro hn (below_then HN.out.2 HN.out.2.size hb))
        clear hn hb
        go_wp2
        go_ret
        exact ⟨_, rfl, ⟨_, rfl, HN2.out.1⟩, HN2.out.2⟩
theorem drop_any (t : Option Av) (v : Value) (key : Str) (w : World) (h : TreeO w t v) (hm : manyO t ≤ 900000) (ht : TabLaid w) :
    Calls Tryd.prog 23 #[v, S8 key] w fun e w' => ∃ v', e = .returned v' ∧ TreeO w' (dropO key t) v' ∧ Below w.heap.size w w' := by
  have HT := Lib.hid (And.intro h (And.intro hm ht))
  rcases hg : getO key t with _ | u
  · have HR := Lib.hid (show dropO key t = t by cases t with | none => rfl | some t => simp only [dropO]; simp only [getO] at hg; rw [hg])
    have HG := Lib.hid hg
    clear h hm ht hg
    rw [HR.out]
    go_enter Tryd.func23, Tryd.ntmps23
    go_wp2_with fail
    refine (get_any t v key w HT.out.1).mono ?_
    rintro e w1 ⟨rfl, rfl⟩
    rw [HG.out]
    unfold getVal
    go_wp2
    go_ret
    exact ⟨_, rfl, HT.out.1, Below.refl _ _⟩
  · cases t with
    | none => cases hg
    | some t =>
      obtain ⟨g, rfl, h⟩ := h
      have HR := Lib.hid (show dropO key (some t) = t.drop key by simp only [dropO]; simp only [getO] at hg; rw [hg])
      have HG := Lib.hid hg
      have H := Lib.hid h
      clear h hm ht hg
      rw [HR.out]
      go_enter Tryd.func23, Tryd.ntmps23
      go_wp2_with fail
      refine (get_any (some t) _ key w HT.out.1).mono ?_
      rintro e w1 ⟨rfl, rfl⟩
      rw [HG.out]
      unfold getVal
      go_wp2_with fail
      refine (drop_tree t key g _ H.out HT.out.2.1 HT.out.2.2).mono ?_
      rintro e wc ⟨v, rfl, hn, hb⟩
      have HN := Lib.hid (And.intro hn hb)
      clear hn hb
      go_wp2
      go_ret
      exact ⟨_, rfl, HN.out.1, HN.out.2⟩
end Go.Proofs.YtdekealpachhmaaDoor
