/- Layer 7's reference: right by its contract. -/
import Derived.Test.YtdekealpachhmaaDoorRvL
namespace Go.Proofs.YtdekealpachhmaaDoor
open Go Go.RowKit Go.Isth

theorem blk_new_at2 {b : Nat} {w0 w : World} {o : Obj} (_h : Below b w0 (w.alloc o)) (cs : List Value) (t : TypeId) : Blk ((w.alloc o).alloc (.cells cs.toArray t)) (w.heap.size + 1) t cs := by
  have h := Blk_new (w.alloc o) cs t
  rw [World.size_alloc] at h
  exact h
theorem size_at2 {w0 w : World} {o : Obj} (h : Below w0.heap.size w0 (w.alloc o)) : w0.heap.size ≤ w.heap.size + 1 := by
  have := h.size
  rw [World.size_alloc] at this
  exact this
theorem blk_lt2 {w : World} {o : Obj} {b : Nat} {t : TypeId} {cs : List Value} (h : Blk (w.alloc o) b t cs) : b < w.heap.size + 1 := by
  have := h.lt
  rw [World.size_alloc] at this
  exact this
theorem range_lt {w : World} {b o : Nat} {cs : List Value} (h : w.rangeAt b o cs) (hl : 0 < cs.length) : b < w.heap.size := World.block_lt_of_cell? w _ (h 0 _ (List.getElem?_eq_getElem hl))
theorem rheight_to (t : Av) (cs : List Value) (w : World) (h : RC w t cs) (n : Nat) (hn : t.height = n) (hm : t.many ≤ 900000) :
    Calls Tryd.prog 38 #[.agg cs.toArray] w fun e w' => e = .returned (.int .i64 (n : Nat)) ∧ Below w.heap.size w w' := by
  subst hn
  exact rheight_tree t cs w h hm
/-- A tree's blocks are eight cells long: what four cells hold is none of them. -/
theorem RC.store {w w' : World} {x : Nat} (hx : Blk w x 26 emptyC) (hg : w.grownBy w' (some x)) : ∀ {t : Av} {cs : List Value}, RC w t cs → RC w' t cs
  | .leaf _ _, _, h => h
  | .node _ _, _, h => by
    obtain ⟨g, ca, cb, e, h1, h2, h3⟩ := h
    refine ⟨g, ca, cb, e, h1.grown hg (fun e => ?_), RC.store hx hg h2, RC.store hx hg h3⟩
    injection e with e
    subst e
    have h := hx.symm.trans h1
    have hl : emptyC.length = (ca ++ cb).length := by
      injection h with h
      injection h with h
      have := congrArg Array.size h
      simpa using this
    rw [List.length_append, h2.len, h3.len] at hl
    cases hl
set_option maxRecDepth 100000 in
set_option maxHeartbeats 4000000 in
theorem rr_aa (x y1 y2 b : Av) (ca cb : List Value) (w : World) (ha : RC w (.node x (.node y1 y2)) ca) (hb : RC w b cb) (hm : Av.many (.node x (.node y1 y2)) + Av.many b ≤ 900000) (hs : Av.height (.node x (.node y1 y2)) = Av.height b + 2 ∧ Av.height x < Av.height (.node y1 y2)) :
    Calls Tryd.prog 87 #[.agg ca.toArray, .agg cb.toArray] w fun e w' => ∃ cs, e = .returned (.agg cs.toArray) ∧ RC w' (.node (.node x y1) (.node y2 b)) cs ∧ Below w.heap.size w w' := by
  have la := ha.len
  have lb := hb.len
  obtain ⟨g, cx, cy, hcs, hrx, hry, hx, hy⟩ := rnode ha
  have lx := hx.len
  have ly := hy.len
  have hgw := range_lt hrx (by rw [lx]; omega)
  obtain ⟨g', c1, c2, hcs', hr1, hr2, h1, h2⟩ := rnode hy
  have l1 := h1.len
  have l2 := h2.len
  have hgw' := range_lt hr1 (by rw [l1]; omega)
  obtain ⟨ah, eah⟩ : ∃ n, Av.height (.node x (.node y1 y2)) = n := ⟨_, rfl⟩
  obtain ⟨bh, ebh⟩ : ∃ n, Av.height b = n := ⟨_, rfl⟩
  have hma := Av.height_many (.node x (.node y1 y2))
  have hmb := Av.height_many b
  rw [eah] at hma hs
  rw [ebh] at hmb hs
  obtain ⟨xh, exh⟩ : ∃ n, Av.height (x) = n := ⟨_, rfl⟩
  obtain ⟨yh, eyh⟩ : ∃ n, Av.height (.node y1 y2) = n := ⟨_, rfl⟩
  rw [exh, eyh] at hs
  have HD := Lib.hid (show IntKind.i64.wrap ((ah : Int) - (bh : Int)) = 2 by rw [IntWalk.i64_in _ ⟨by omega, by omega⟩]; omega)
  have hcmp : xh < yh := by omega
  have HM := Lib.hid hm
  obtain ⟨w1, hw1⟩ : ∃ w1, w1 = w.alloc (.cells ca.toArray 26) := ⟨_, rfl⟩
  obtain ⟨w2, hw2⟩ : ∃ w2, w2 = w1.alloc (.cells cb.toArray 26) := ⟨_, rfl⟩
  obtain ⟨w3, hw3⟩ : ∃ w3, w3 = w2.alloc (.cells emptyC.toArray 26) := ⟨_, rfl⟩
  obtain ⟨xa, hxa⟩ : ∃ n, n = w.heap.size := ⟨_, rfl⟩
  have s1 : w1.heap.size = xa + 1 := by rw [hw1, World.size_alloc, hxa]
  have s2 : w2.heap.size = xa + 1 + 1 := by rw [hw2, World.size_alloc, s1]
  have s3 : w3.heap.size = xa + 1 + 1 + 1 := by rw [hw3, World.size_alloc, s2]
  have b1 : Below w.heap.size w w1 := by rw [hw1]; exact (Below.refl _ _).alloc (Nat.le_refl _) _
  have b2 : Below w.heap.size w w2 := by rw [hw2]; exact b1.alloc b1.size _
  have b3 : Below w.heap.size w w3 := by rw [hw3]; exact b2.alloc b2.size _
  have z1 : Blk w3 xa 26 ca := by rw [hw3, hw2, hw1, hxa]; exact ((Blk_new w ca 26).alloc _).alloc _
  have z2 : Blk w3 (xa + 1) 26 cb := by rw [← s1, hw3, hw2]; exact (Blk_new w1 cb 26).alloc _
  have z3 : Blk w3 (xa + 1 + 1) 26 emptyC := by rw [← s2, hw3]; exact Blk_new w2 emptyC 26
  have HTS : Hid (∀ w', Off w3 (xa + 1 + 1) w' → w'.rangeAt xa 0 ca ∧ w'.rangeAt (xa + 1) 0 cb ∧ w'.cell? ⟨xa, 3, none⟩ = some (.slice (some ⟨g, 0, none⟩) 2 2) ∧ w'.rangeAt g 0 cx ∧ w'.rangeAt g 4 cy) := Lib.hid fun w' h => ⟨range_off (blk_range z1) h (by omega), range_off (blk_range z2) h (by omega), cell_off (z1.cellD 3 _ (by rw [hcs]; rfl)) h (by omega), range_off (range_below hrx b3) h (by omega), range_off (range_below hry b3) h (by omega)⟩
  have HT := Lib.hid (And.intro (ha.below b3) (And.intro (hb.below b3) (And.intro (hx.below b3) (And.intro (hy.below b3) (And.intro (h1.below b3) ((h2.below b3)))))))
  have HW0 := Lib.hid b3
  have HX := Lib.hid z3
  have HXA := Lib.hid (And.intro hxa s3)
  have HEH := Lib.hid (And.intro eah ebh)
  have HEX := Lib.hid (And.intro exh eyh)
  have HC := Lib.hid hcs
  clear hcs
  have HG := Lib.hid (And.intro hgw (And.intro hrx hry))
  have HLX := Lib.hid (And.intro lx ly)
  have HC' := Lib.hid hcs'
  clear hcs'
  have HG' := Lib.hid (And.intro hgw' (And.intro hr1 hr2))
  have ica : (Tryd.prog.info? 26).map (·.size) = some ca.length := by rw [la]; kernel_rfl
  have icb : (Tryd.prog.info? 26).map (·.size) = some cb.length := by rw [lb]; kernel_rfl
  have icx : (Tryd.prog.info? 26).map (·.size) = some cx.length := by rw [lx]; kernel_rfl
  have icy : (Tryd.prog.info? 26).map (·.size) = some cy.length := by rw [ly]; kernel_rfl
  have ic1 : (Tryd.prog.info? 26).map (·.size) = some c1.length := by rw [l1]; kernel_rfl
  have ic2 : (Tryd.prog.info? 26).map (·.size) = some c2.length := by rw [l2]; kernel_rfl
  have uT := Tryd.underlying26
  go_enter Tryd.func87, Tryd.ntmps87
  go_upto_region 1 with fail
  change Code.wp _ _ _ _ (((w.alloc (.cells ca.toArray 26)).alloc (.cells cb.toArray 26)).alloc (.cells emptyC.toArray 26))
  rw [← hw1, ← hw2, ← hw3, ← hxa]
  have HB : Hid (Below w3.heap.size w3 (w3.drewN 1)) := Lib.hid (refl_drewN w3 1)
  clear hw1 hw2 hw3 s1 s2 s3 b1 b2 b3 z1 z2 z3 la lb hm hma hmb hs eah ebh ha hb hxa hrx hry hx hy lx ly hgw exh eyh hr1 hr2 h1 h2 l1 l2 hgw'
  refine wp_region_held_drew (S := (fun w' => w'.rangeAt xa 0 ca ∧ w'.rangeAt (xa + 1) 0 cb ∧ w'.cell? ⟨xa, 3, none⟩ = some (.slice (some ⟨g, 0, none⟩) 2 2) ∧ w'.rangeAt g 0 cx ∧ w'.rangeAt g 4 cy)) (by kernel_rfl) ?p1_s0 (fun hHeld => ?_)
  case p1_s0 => exact HTS.out _ (off_below HB.out)
  refine held_row (i := 0) rfl (by kernel_rfl) (by kernel_rfl) (by kernel_rfl) _ _ rfl _ _ rfl ?p1_1C ?p1_1D (fun _ _ _ h => h) (by rfl) ?p1_1a ?p1_1b ?p1_1c ?p1_1d hHeld ?_
  case p1_1a => (intro w hSw; (try dsimp only at hSw); go_split_ands; assumption)
  case p1_1b => assumption
  case p1_1c => rfl
  case p1_1d => first | assumption | (simp only [*]; done)
  try simp only [Act.put, List.setIfInBounds_toArray, List.set_cons_zero, List.set_cons_succ]
  refine held_row (i := 2) rfl (by kernel_rfl) (by kernel_rfl) (by kernel_rfl) _ _ rfl _ _ rfl ?p1_2C ?p1_2D (fun _ _ _ h => h) (by rfl) ?p1_2a ?p1_2b ?p1_2c ?p1_2d hHeld ?_
  case p1_2a => (intro w hSw; (try dsimp only at hSw); go_split_ands; assumption)
  case p1_2b => assumption
  case p1_2c => rfl
  case p1_2d => first | assumption | (simp only [*]; done)
  try simp only [Act.put, List.setIfInBounds_toArray, List.set_cons_zero, List.set_cons_succ]
  refine held_step (i := 1) rfl (by kernel_rfl) (by rfl) (fun K hK => ?_)
  go_simp
  refine (rheight_to ((.node x (.node y1 y2))) ca _ (HT.out.1.below HB.out) ah HEH.out.1 (by have := HM.out; (try simp only [Av.many] at this ⊢); omega)).mono ?_
  rintro e wc ⟨rfl, hb⟩
  have HB := Lib.hid (below_then HB.out HB.out.size hb)
  clear hb
  go_wp2_with fail
  have hHeld := HTS.out _ (off_below HB.out)
  refine hK.out _ _ (HTS.out _ (off_below HB.out)) ?_
  clear hK K
  try simp only [Act.put, List.setIfInBounds_toArray, List.set_cons_zero, List.set_cons_succ]
  refine held_step (i := 3) rfl (by kernel_rfl) (by rfl) (fun K hK => ?_)
  go_simp
  refine (rheight_to (b) cb _ (HT.out.2.1.below HB.out) bh HEH.out.2 (by have := HM.out; (try simp only [Av.many] at this ⊢); omega)).mono ?_
  rintro e wc ⟨rfl, hb⟩
  have HB := Lib.hid (below_then HB.out HB.out.size hb)
  clear hb
  go_wp2_with fail
  have hHeld := HTS.out _ (off_below HB.out)
  refine hK.out _ _ (HTS.out _ (off_below HB.out)) ?_
  clear hK K
  try simp only [Act.put, List.setIfInBounds_toArray, List.set_cons_zero, List.set_cons_succ]
  refine held_take (i := 4) (v := (.int .i64 (2))) rfl (by kernel_rfl) (by kernel_rfl) (by kernel_rfl) (fun _ _ _ h => h) (by rfl) ?p1_3y hHeld ?_
  case p1_3y => (intro w _hSw; (try dsimp only at _hSw); go_simp; try rw [HD.out])
  try simp only [Act.put, List.setIfInBounds_toArray, List.set_cons_zero, List.set_cons_succ]
  refine held_take (i := 5) (v := ?p1_4v) rfl (by kernel_rfl) (by kernel_rfl) (by kernel_rfl) (fun _ _ _ h => h) (by rfl) ?p1_4y hHeld ?_
  case p1_4y => ((intro w _hSw; (try dsimp only at _hSw); go_simp); try (with_reducible rfl))
  try simp only [Act.put, List.setIfInBounds_toArray, List.set_cons_zero, List.set_cons_succ]
  refine wpAnyH_done (by kernel_rfl) ?_ _
  clear hHeld
  go_wp2_with fail
  have HB := Lib.hid (below_then HB.out HB.out.size (refl_drewN _ 1))
  go_cut [6, 7] from 17 (fun v6 v7 wr => ∃ g6 g7 : Nat, v6 = .pointer (some ⟨g6, 0, none⟩) ∧ v7 = .pointer (some ⟨g7, 0, none⟩) ∧ Below w3.heap.size w3 wr ∧ Blk wr g6 26 cx ∧ Blk wr g7 26 cy ∧ w3.heap.size ≤ g6 ∧ w3.heap.size ≤ g7)
  case first =>
    refine wp_region_held_drew (S := (fun w' => w'.rangeAt xa 0 ca ∧ w'.rangeAt (xa + 1) 0 cb ∧ w'.cell? ⟨xa, 3, none⟩ = some (.slice (some ⟨g, 0, none⟩) 2 2) ∧ w'.rangeAt g 0 cx ∧ w'.rangeAt g 4 cy)) (by kernel_rfl) ?p3_s0 (fun hHeld => ?_)
    case p3_s0 => exact HTS.out _ (off_below HB.out)
    refine held_take (i := 0) (v := ?p3_1v) rfl (by kernel_rfl) (by kernel_rfl) (by kernel_rfl) (fun _ _ _ h => h) (by rfl) ?p3_1y hHeld ?_
    case p3_1y => ((intro w _hSw; (try dsimp only at _hSw); go_simp); try (with_reducible rfl))
    try simp only [Act.put, List.setIfInBounds_toArray, List.set_cons_zero, List.set_cons_succ]
    refine held_take (i := 1) (v := ?p3_2v) rfl (by kernel_rfl) (by kernel_rfl) (by kernel_rfl) (fun _ _ _ h => h) (by rfl) ?p3_2y hHeld ?_
    case p3_2y => ((intro w _hSw; (try dsimp only at _hSw); go_simp); try (with_reducible rfl))
    try simp only [Act.put, List.setIfInBounds_toArray, List.set_cons_zero, List.set_cons_succ]
    refine held_take (i := 2) (v := ?p3_3v) rfl (by kernel_rfl) (by kernel_rfl) (by kernel_rfl) (fun _ _ _ h => h) (by rfl) ?p3_3y hHeld ?_
    case p3_3y => ((intro w _hSw; (try dsimp only at _hSw); go_simp); try (with_reducible rfl))
    try simp only [Act.put, List.setIfInBounds_toArray, List.set_cons_zero, List.set_cons_succ]
    refine held_row (i := 3) rfl (by kernel_rfl) (by kernel_rfl) (by kernel_rfl) _ _ rfl _ _ rfl ?p3_4C ?p3_4D (fun _ _ _ h => h) (by rfl) ?p3_4a ?p3_4b ?p3_4c ?p3_4d hHeld ?_
    case p3_4a => (intro w hSw; (try dsimp only at hSw); go_split_ands; assumption)
    case p3_4b => assumption
    case p3_4c => rfl
    case p3_4d => first | assumption | (simp only [*]; done)
    try simp only [Act.put, List.setIfInBounds_toArray, List.set_cons_zero, List.set_cons_succ]
    refine held_take (i := 4) (v := ?p3_5v) rfl (by kernel_rfl) (by kernel_rfl) (by kernel_rfl) (fun _ _ _ h => h) (by rfl) ?p3_5y hHeld ?_
    case p3_5y => ((intro w _hSw; (try dsimp only at _hSw); go_simp); try (with_reducible rfl))
    try simp only [Act.put, List.setIfInBounds_toArray, List.set_cons_zero, List.set_cons_succ]
    refine held_take (i := 5) (v := ?p3_6v) rfl (by kernel_rfl) (by kernel_rfl) (by kernel_rfl) (fun _ _ _ h => h) (by rfl) ?p3_6y hHeld ?_
    case p3_6y => ((intro w _hSw; (try dsimp only at _hSw); go_simp); try (with_reducible rfl))
    try simp only [Act.put, List.setIfInBounds_toArray, List.set_cons_zero, List.set_cons_succ]
    refine held_take (i := 6) (v := ?p3_7v) rfl (by kernel_rfl) (by kernel_rfl) (by kernel_rfl) (fun _ _ _ h => h) (by rfl) ?p3_7y hHeld ?_
    case p3_7y => ((intro w _hSw; (try dsimp only at _hSw); go_simp); try (with_reducible rfl))
    try simp only [Act.put, List.setIfInBounds_toArray, List.set_cons_zero, List.set_cons_succ]
    refine held_row (i := 7) rfl (by kernel_rfl) (by kernel_rfl) (by kernel_rfl) _ _ rfl _ _ rfl ?p3_8C ?p3_8D (fun _ _ _ h => h) (by rfl) ?p3_8a ?p3_8b ?p3_8c ?p3_8d hHeld ?_
    case p3_8a => (intro w hSw; (try dsimp only at hSw); go_split_ands; assumption)
    case p3_8b => assumption
    case p3_8c => rfl
    case p3_8d => first | assumption | (simp only [*]; done)
    try simp only [Act.put, List.setIfInBounds_toArray, List.set_cons_zero, List.set_cons_succ]
    refine held_two (i := 8) (j := 9) rfl rfl (by kernel_rfl) (by rfl) (by rfl) (fun K hK => ?_) (fun K hK => ?_)
    · skip
      go_simp
      try have HNE := Lib.hid (blk_lt2 HL7.out)
      try have HL7 := Lib.hid (HL7.out.alloc (.cells emptyC.toArray 26))
      first | have HL6 := Lib.hid (blk_new_at2 HB.out emptyC 26) | have HL6 := Lib.hid (blk_new_at HB.out emptyC 26)
      first | have HGL6 := Lib.hid (size_at2 HB.out) | have HGL6 := Lib.hid HB.out.size
      have HB := Lib.hid (HB.out.alloc HB.out.size (.cells emptyC.toArray 26))
      have hHeld := HTS.out _ (off_below HB.out)
      refine hK.out _ _ (HTS.out _ (off_below HB.out)) ?_
      clear hK K
      (try simp only [Act.put]); (try simp only [List.setIfInBounds_toArray]); (try simp only [List.set_cons_succ]); (try simp only [List.set_cons_zero])
      refine held_step (i := 9) rfl (by kernel_rfl) (by rfl) (fun K hK => ?_)
      go_simp
      try have HNE := Lib.hid (blk_lt2 HL6.out)
      try have HL6 := Lib.hid (HL6.out.alloc (.cells emptyC.toArray 26))
      first | have HL7 := Lib.hid (blk_new_at2 HB.out emptyC 26) | have HL7 := Lib.hid (blk_new_at HB.out emptyC 26)
      first | have HGL7 := Lib.hid (size_at2 HB.out) | have HGL7 := Lib.hid HB.out.size
      have HB := Lib.hid (HB.out.alloc HB.out.size (.cells emptyC.toArray 26))
      have hHeld := HTS.out _ (off_below HB.out)
      refine hK.out _ _ (HTS.out _ (off_below HB.out)) ?_
      clear hK K
      (try simp only [Act.put]); (try simp only [List.setIfInBounds_toArray]); (try simp only [List.set_cons_succ]); (try simp only [List.set_cons_zero])
      refine held_step (i := 10) rfl (by kernel_rfl) (by rfl) (fun K hK => ?_)
      refine wp_store_blk 26 (.tmp 6) (.tmp 20) rfl _ cx rfl rfl 26 _ HL6.out (by rw [HT.out.2.2.1.len]; kernel_rfl) (by rw [HT.out.2.2.1.len]; rfl) HT.out.2.2.1.one ?_
      intro wc hz hg
      have HL7 := Lib.hid (HL7.out.grown hg (by first | exact fun e => Nat.ne_of_lt HNE.out (Option.some.inj e) | exact fun e => Nat.ne_of_gt HNE.out (Option.some.inj e)))
      have HL6 := Lib.hid hz
      have HB := Lib.hid (HB.out.grown hg HB.out.size (fun q e => (Option.some.inj e) ▸ HGL6.out))
      clear hz hg
      have hHeld := HTS.out _ (off_below HB.out)
      refine hK.out _ _ (HTS.out _ (off_below HB.out)) ?_
      clear hK K
      (try simp only [Act.put]); (try simp only [List.setIfInBounds_toArray]); (try simp only [List.set_cons_succ]); (try simp only [List.set_cons_zero])
      refine held_step (i := 11) rfl (by kernel_rfl) (by rfl) (fun K hK => ?_)
      refine wp_store_blk 26 (.tmp 7) (.tmp 24) rfl _ cy rfl rfl 26 _ HL7.out (by rw [HT.out.2.2.2.1.len]; kernel_rfl) (by rw [HT.out.2.2.2.1.len]; rfl) HT.out.2.2.2.1.one ?_
      intro wc hz hg
      have HL6 := Lib.hid (HL6.out.grown hg (by first | exact fun e => Nat.ne_of_lt HNE.out (Option.some.inj e) | exact fun e => Nat.ne_of_gt HNE.out (Option.some.inj e)))
      have HL7 := Lib.hid hz
      have HB := Lib.hid (HB.out.grown hg HB.out.size (fun q e => (Option.some.inj e) ▸ HGL7.out))
      clear hz hg
      have hHeld := HTS.out _ (off_below HB.out)
      refine hK.out _ _ (HTS.out _ (off_below HB.out)) ?_
      clear hK K
      (try simp only [Act.put]); (try simp only [List.setIfInBounds_toArray]); (try simp only [List.set_cons_succ]); (try simp only [List.set_cons_zero])
      refine wpAnyH_done (by kernel_rfl) ?_ _
      go_wp2
      go_meet
      case rel => exact ⟨_, _, rfl, rfl, HB.out, HL6.out, HL7.out, HGL6.out, HGL7.out⟩
    · skip
      go_simp
      try have HNE := Lib.hid (blk_lt2 HL6.out)
      try have HL6 := Lib.hid (HL6.out.alloc (.cells emptyC.toArray 26))
      first | have HL7 := Lib.hid (blk_new_at2 HB.out emptyC 26) | have HL7 := Lib.hid (blk_new_at HB.out emptyC 26)
      first | have HGL7 := Lib.hid (size_at2 HB.out) | have HGL7 := Lib.hid HB.out.size
      have HB := Lib.hid (HB.out.alloc HB.out.size (.cells emptyC.toArray 26))
      have hHeld := HTS.out _ (off_below HB.out)
      refine hK.out _ _ (HTS.out _ (off_below HB.out)) ?_
      clear hK K
      (try simp only [Act.put]); (try simp only [List.setIfInBounds_toArray]); (try simp only [List.set_cons_succ]); (try simp only [List.set_cons_zero])
      refine held_step (i := 8) rfl (by kernel_rfl) (by rfl) (fun K hK => ?_)
      go_simp
      try have HNE := Lib.hid (blk_lt2 HL7.out)
      try have HL7 := Lib.hid (HL7.out.alloc (.cells emptyC.toArray 26))
      first | have HL6 := Lib.hid (blk_new_at2 HB.out emptyC 26) | have HL6 := Lib.hid (blk_new_at HB.out emptyC 26)
      first | have HGL6 := Lib.hid (size_at2 HB.out) | have HGL6 := Lib.hid HB.out.size
      have HB := Lib.hid (HB.out.alloc HB.out.size (.cells emptyC.toArray 26))
      have hHeld := HTS.out _ (off_below HB.out)
      refine hK.out _ _ (HTS.out _ (off_below HB.out)) ?_
      clear hK K
      (try simp only [Act.put]); (try simp only [List.setIfInBounds_toArray]); (try simp only [List.set_cons_succ]); (try simp only [List.set_cons_zero])
      refine held_step (i := 10) rfl (by kernel_rfl) (by rfl) (fun K hK => ?_)
      refine wp_store_blk 26 (.tmp 6) (.tmp 20) rfl _ cx rfl rfl 26 _ HL6.out (by rw [HT.out.2.2.1.len]; kernel_rfl) (by rw [HT.out.2.2.1.len]; rfl) HT.out.2.2.1.one ?_
      intro wc hz hg
      have HL7 := Lib.hid (HL7.out.grown hg (by first | exact fun e => Nat.ne_of_lt HNE.out (Option.some.inj e) | exact fun e => Nat.ne_of_gt HNE.out (Option.some.inj e)))
      have HL6 := Lib.hid hz
      have HB := Lib.hid (HB.out.grown hg HB.out.size (fun q e => (Option.some.inj e) ▸ HGL6.out))
      clear hz hg
      have hHeld := HTS.out _ (off_below HB.out)
      refine hK.out _ _ (HTS.out _ (off_below HB.out)) ?_
      clear hK K
      (try simp only [Act.put]); (try simp only [List.setIfInBounds_toArray]); (try simp only [List.set_cons_succ]); (try simp only [List.set_cons_zero])
      refine held_step (i := 11) rfl (by kernel_rfl) (by rfl) (fun K hK => ?_)
      refine wp_store_blk 26 (.tmp 7) (.tmp 24) rfl _ cy rfl rfl 26 _ HL7.out (by rw [HT.out.2.2.2.1.len]; kernel_rfl) (by rw [HT.out.2.2.2.1.len]; rfl) HT.out.2.2.2.1.one ?_
      intro wc hz hg
      have HL6 := Lib.hid (HL6.out.grown hg (by first | exact fun e => Nat.ne_of_lt HNE.out (Option.some.inj e) | exact fun e => Nat.ne_of_gt HNE.out (Option.some.inj e)))
      have HL7 := Lib.hid hz
      have HB := Lib.hid (HB.out.grown hg HB.out.size (fun q e => (Option.some.inj e) ▸ HGL7.out))
      clear hz hg
      have hHeld := HTS.out _ (off_below HB.out)
      refine hK.out _ _ (HTS.out _ (off_below HB.out)) ?_
      clear hK K
      (try simp only [Act.put]); (try simp only [List.setIfInBounds_toArray]); (try simp only [List.set_cons_succ]); (try simp only [List.set_cons_zero])
      refine wpAnyH_done (by kernel_rfl) ?_ _
      go_wp2
      go_meet
      case rel => exact ⟨_, _, rfl, rfl, HB.out, HL6.out, HL7.out, HGL6.out, HGL7.out⟩
  case rest =>
    obtain ⟨g6, g7, rfl, rfl, hb, h6, h7, l6, l7⟩ := hcut
    rw [HXA.out.2] at l6 l7
    have hxw := HXA.out.1
    have hgw' := HG'.out.1
    have HTS : Hid (∀ w', Off wc (xa + 1 + 1) w' → w'.rangeAt g6 0 cx ∧ w'.rangeAt g7 0 cy ∧ w'.rangeAt (xa + 1) 0 cb ∧ w'.cell? ⟨g7, 3, none⟩ = some (.slice (some ⟨g', 0, none⟩) 2 2) ∧ w'.rangeAt g' 0 c1 ∧ w'.rangeAt g' 4 c2) := Lib.hid fun w' h => ⟨range_off (blk_range h6) h (by omega), range_off (blk_range h7) h (by omega), range_off (range_below (HTS.out w3 (off_below (Below.refl _ _))).2.1 hb) h (by omega), cell_off (h7.cellD 3 _ (by rw [HC'.out]; rfl)) h (by omega), range_off (range_below (range_below HG'.out.2.1 HW0.out) hb) h (by omega), range_off (range_below (range_below HG'.out.2.2 HW0.out) hb) h (by omega)⟩
    have HX := Lib.hid (HX.out.below hb)
    have HT := Lib.hid (And.intro (HT.out.1.below hb) (And.intro (HT.out.2.1.below hb) (And.intro (HT.out.2.2.1.below hb) (And.intro (HT.out.2.2.2.1.below hb) (And.intro (HT.out.2.2.2.2.1.below hb) ((HT.out.2.2.2.2.2.below hb)))))))
    have HW0 := Lib.hid (below_then HW0.out HW0.out.size hb)
    have HB : Hid (Below wc.heap.size wc (wc.drewN 1)) := Lib.hid (refl_drewN wc 1)
    clear h6 h7 hb l6 l7 hxw hgw'
    go_wp2_with fail
    refine wp_region_held_drew (S := (fun w' => w'.rangeAt g6 0 cx ∧ w'.rangeAt g7 0 cy ∧ w'.rangeAt (xa + 1) 0 cb ∧ w'.cell? ⟨g7, 3, none⟩ = some (.slice (some ⟨g', 0, none⟩) 2 2) ∧ w'.rangeAt g' 0 c1 ∧ w'.rangeAt g' 4 c2)) (by kernel_rfl) ?p4_s0 (fun hHeld => ?_)
    case p4_s0 => exact HTS.out _ (off_below HB.out)
    refine held_row (i := 0) rfl (by kernel_rfl) (by kernel_rfl) (by kernel_rfl) _ _ rfl _ _ rfl ?p4_1C ?p4_1D (fun _ _ _ h => h) (by rfl) ?p4_1a ?p4_1b ?p4_1c ?p4_1d hHeld ?_
    case p4_1a => (intro w hSw; (try dsimp only at hSw); go_split_ands; assumption)
    case p4_1b => assumption
    case p4_1c => rfl
    case p4_1d => first | assumption | (simp only [*]; done)
    try simp only [Act.put, List.setIfInBounds_toArray, List.set_cons_zero, List.set_cons_succ]
    refine held_row (i := 2) rfl (by kernel_rfl) (by kernel_rfl) (by kernel_rfl) _ _ rfl _ _ rfl ?p4_2C ?p4_2D (fun _ _ _ h => h) (by rfl) ?p4_2a ?p4_2b ?p4_2c ?p4_2d hHeld ?_
    case p4_2a => (intro w hSw; (try dsimp only at hSw); go_split_ands; assumption)
    case p4_2b => assumption
    case p4_2c => rfl
    case p4_2d => first | assumption | (simp only [*]; done)
    try simp only [Act.put, List.setIfInBounds_toArray, List.set_cons_zero, List.set_cons_succ]
    refine held_step (i := 1) rfl (by kernel_rfl) (by rfl) (fun K hK => ?_)
    go_simp
    refine (rheight_to (.node y1 y2) cy _ (HT.out.2.2.2.1.below HB.out) yh HEX.out.2 (by have := HM.out; (try simp only [Av.many] at this ⊢); omega)).mono ?_
    rintro e wc ⟨rfl, hb⟩
    have HB := Lib.hid (below_then HB.out HB.out.size hb)
    clear hb
    go_wp2_with fail
    have hHeld := HTS.out _ (off_below HB.out)
    refine hK.out _ _ (HTS.out _ (off_below HB.out)) ?_
    clear hK K
    try simp only [Act.put, List.setIfInBounds_toArray, List.set_cons_zero, List.set_cons_succ]
    refine held_step (i := 3) rfl (by kernel_rfl) (by rfl) (fun K hK => ?_)
    go_simp
    refine (rheight_to (x) cx _ (HT.out.2.2.1.below HB.out) xh HEX.out.1 (by have := HM.out; (try simp only [Av.many] at this ⊢); omega)).mono ?_
    rintro e wc ⟨rfl, hb⟩
    have HB := Lib.hid (below_then HB.out HB.out.size hb)
    clear hb
    go_wp2_with fail
    have hHeld := HTS.out _ (off_below HB.out)
    refine hK.out _ _ (HTS.out _ (off_below HB.out)) ?_
    clear hK K
    try simp only [Act.put, List.setIfInBounds_toArray, List.set_cons_zero, List.set_cons_succ]
    refine held_take (i := 4) (v := ?p4_3v) rfl (by kernel_rfl) (by kernel_rfl) (by kernel_rfl) (fun _ _ _ h => h) (by rfl) ?p4_3y hHeld ?_
    case p4_3y => ((intro w _hSw; (try dsimp only at _hSw); go_simp); try (with_reducible rfl))
    try simp only [Act.put, List.setIfInBounds_toArray, List.set_cons_zero, List.set_cons_succ]
    refine wpAnyH_done (by kernel_rfl) ?_ _
    clear hHeld
    go_wp2_with fail
    have HB := Lib.hid (below_then HB.out HB.out.size (refl_drewN _ 1))
    refine wp_region_held_drew (S := (fun w' => w'.rangeAt g6 0 cx ∧ w'.rangeAt g7 0 cy ∧ w'.rangeAt (xa + 1) 0 cb ∧ w'.cell? ⟨g7, 3, none⟩ = some (.slice (some ⟨g', 0, none⟩) 2 2) ∧ w'.rangeAt g' 0 c1 ∧ w'.rangeAt g' 4 c2)) (by kernel_rfl) ?p5_s0 (fun hHeld => ?_)
    case p5_s0 => exact HTS.out _ (off_below HB.out)
    refine held_row (i := 0) rfl (by kernel_rfl) (by kernel_rfl) (by kernel_rfl) _ _ rfl _ _ rfl ?p5_1C ?p5_1D (fun _ _ _ h => h) (by rfl) ?p5_1a ?p5_1b ?p5_1c ?p5_1d hHeld ?_
    case p5_1a => (intro w hSw; (try dsimp only at hSw); go_split_ands; assumption)
    case p5_1b => assumption
    case p5_1c => rfl
    case p5_1d => first | assumption | (simp only [*]; done)
    try simp only [Act.put, List.setIfInBounds_toArray, List.set_cons_zero, List.set_cons_succ]
    refine held_take (i := 1) (v := ?p5_2v) rfl (by kernel_rfl) (by kernel_rfl) (by kernel_rfl) (fun _ _ _ h => h) (by rfl) ?p5_2y hHeld ?_
    case p5_2y => ((intro w _hSw; (try dsimp only at _hSw); go_simp); try (with_reducible rfl))
    try simp only [Act.put, List.setIfInBounds_toArray, List.set_cons_zero, List.set_cons_succ]
    refine held_take (i := 2) (v := ?p5_3v) rfl (by kernel_rfl) (by kernel_rfl) (by kernel_rfl) (fun _ _ _ h => h) (by rfl) ?p5_3y hHeld ?_
    case p5_3y => ((intro w _hSw; (try dsimp only at _hSw); go_simp); try (with_reducible rfl))
    try simp only [Act.put, List.setIfInBounds_toArray, List.set_cons_zero, List.set_cons_succ]
    refine held_take (i := 3) (v := ?p5_4v) rfl (by kernel_rfl) (by kernel_rfl) (by kernel_rfl) (fun _ _ _ h => h) (by rfl) ?p5_4y hHeld ?_
    case p5_4y => ((intro w _hSw; (try dsimp only at _hSw); go_simp); try (with_reducible rfl))
    try simp only [Act.put, List.setIfInBounds_toArray, List.set_cons_zero, List.set_cons_succ]
    refine held_row (i := 4) rfl (by kernel_rfl) (by kernel_rfl) (by kernel_rfl) _ _ rfl _ _ rfl ?p5_5C ?p5_5D (fun _ _ _ h => h) (by rfl) ?p5_5a ?p5_5b ?p5_5c ?p5_5d hHeld ?_
    case p5_5a => (intro w hSw; (try dsimp only at hSw); go_split_ands; assumption)
    case p5_5b => assumption
    case p5_5c => rfl
    case p5_5d => first | assumption | (simp only [*]; done)
    try simp only [Act.put, List.setIfInBounds_toArray, List.set_cons_zero, List.set_cons_succ]
    refine held_take (i := 6) (v := ?p5_6v) rfl (by kernel_rfl) (by kernel_rfl) (by kernel_rfl) (fun _ _ _ h => h) (by rfl) ?p5_6y hHeld ?_
    case p5_6y => ((intro w _hSw; (try dsimp only at _hSw); go_simp); try (with_reducible rfl))
    try simp only [Act.put, List.setIfInBounds_toArray, List.set_cons_zero, List.set_cons_succ]
    refine held_take (i := 7) (v := ?p5_7v) rfl (by kernel_rfl) (by kernel_rfl) (by kernel_rfl) (fun _ _ _ h => h) (by rfl) ?p5_7y hHeld ?_
    case p5_7y => ((intro w _hSw; (try dsimp only at _hSw); go_simp); try (with_reducible rfl))
    try simp only [Act.put, List.setIfInBounds_toArray, List.set_cons_zero, List.set_cons_succ]
    refine held_take (i := 8) (v := ?p5_8v) rfl (by kernel_rfl) (by kernel_rfl) (by kernel_rfl) (fun _ _ _ h => h) (by rfl) ?p5_8y hHeld ?_
    case p5_8y => ((intro w _hSw; (try dsimp only at _hSw); go_simp); try (with_reducible rfl))
    try simp only [Act.put, List.setIfInBounds_toArray, List.set_cons_zero, List.set_cons_succ]
    refine held_row (i := 9) rfl (by kernel_rfl) (by kernel_rfl) (by kernel_rfl) _ _ rfl _ _ rfl ?p5_9C ?p5_9D (fun _ _ _ h => h) (by rfl) ?p5_9a ?p5_9b ?p5_9c ?p5_9d hHeld ?_
    case p5_9a => (intro w hSw; (try dsimp only at hSw); go_split_ands; assumption)
    case p5_9b => assumption
    case p5_9c => rfl
    case p5_9d => first | assumption | (simp only [*]; done)
    try simp only [Act.put, List.setIfInBounds_toArray, List.set_cons_zero, List.set_cons_succ]
    refine held_row (i := 10) rfl (by kernel_rfl) (by kernel_rfl) (by kernel_rfl) _ _ rfl _ _ rfl ?p5_10C ?p5_10D (fun _ _ _ h => h) (by rfl) ?p5_10a ?p5_10b ?p5_10c ?p5_10d hHeld ?_
    case p5_10a => (intro w hSw; (try dsimp only at hSw); go_split_ands; assumption)
    case p5_10b => assumption
    case p5_10c => rfl
    case p5_10d => first | assumption | (simp only [*]; done)
    try simp only [Act.put, List.setIfInBounds_toArray, List.set_cons_zero, List.set_cons_succ]
    refine held_step (i := 5) rfl (by kernel_rfl) (by rfl) (fun K hK => ?_)
    go_simp
    refine (rtwo_any (x) (y1) cx c1 _ (HT.out.2.2.1.below HB.out) (HT.out.2.2.2.2.1.below HB.out)).mono ?_
    rintro e wc ⟨q1, rfl, hn, hb⟩
    have Hq1 := Lib.hid hn
    have HB := Lib.hid (below_then HB.out HB.out.size hb)
    clear hn hb
    go_wp2_with fail
    have hHeld := HTS.out _ (off_below HB.out)
    refine hK.out _ _ (HTS.out _ (off_below HB.out)) ?_
    clear hK K
    try simp only [Act.put, List.setIfInBounds_toArray, List.set_cons_zero, List.set_cons_succ]
    refine held_step (i := 11) rfl (by kernel_rfl) (by rfl) (fun K hK => ?_)
    go_simp
    refine (rtwo_any (y2) (b) c2 cb _ (HT.out.2.2.2.2.2.below HB.out) (HT.out.2.1.below HB.out)).mono ?_
    rintro e wc ⟨q2, rfl, hn, hb⟩
    have Hq1 := Lib.hid (Hq1.out.below hb)
    have Hq2 := Lib.hid hn
    have HB := Lib.hid (below_then HB.out HB.out.size hb)
    clear hn hb
    go_wp2_with fail
    have hHeld := HTS.out _ (off_below HB.out)
    refine hK.out _ _ (HTS.out _ (off_below HB.out)) ?_
    clear hK K
    try simp only [Act.put, List.setIfInBounds_toArray, List.set_cons_zero, List.set_cons_succ]
    refine held_step (i := 12) rfl (by kernel_rfl) (by rfl) (fun K hK => ?_)
    go_simp
    refine (rtwo_any (.node x y1) (.node y2 b) q1 q2 _ Hq1.out Hq2.out).mono ?_
    rintro e wc ⟨q3, rfl, hn, hb⟩
    have Hq3 := Lib.hid hn
    have HB := Lib.hid (below_then HB.out HB.out.size hb)
    clear hn hb
    go_wp2_with fail
    have hHeld := HTS.out _ (off_below HB.out)
    refine hK.out _ _ (HTS.out _ (off_below HB.out)) ?_
    clear hK K
    try simp only [Act.put, List.setIfInBounds_toArray, List.set_cons_zero, List.set_cons_succ]
    refine held_step (i := 13) rfl (by kernel_rfl) (by rfl) (fun K hK => ?_)
    refine wp_store_blk 26 (.tmp 4) (.tmp 42) rfl (xa + 1 + 1) q3 rfl rfl 26 _ (HX.out.below HB.out) (by rw [Hq3.out.len]; kernel_rfl) (by rw [Hq3.out.len]; rfl) Hq3.out.one ?_
    intro w9 hz hg
    have H9 := Lib.hid (And.intro hz (And.intro ((below_then HW0.out HW0.out.size HB.out).grown hg (below_then HW0.out HW0.out.size HB.out).size (fun q e => by injection e with e; have := HXA.out; omega)) (RC.store (HX.out.below HB.out) hg Hq3.out)))
    have HS9 := Lib.hid (off_store HB.out hg)
    clear hz hg
    have hHeld := HTS.out _ HS9.out
    refine hK.out _ _ (HTS.out _ HS9.out) ?_
    clear hK K
    (try simp only [Act.put]); (try simp only [List.setIfInBounds_toArray]); (try simp only [List.set_cons_succ]); (try simp only [List.set_cons_zero])
    refine wpAnyH_done (by kernel_rfl) ?_ _
    go_wp2
    refine bodyPost_ret (results_blk rfl _ _ (xa + 1 + 1) 26 q3 _ rfl H9.out.1 uT rfl (by rw [Hq3.out.len]; kernel_rfl)) rfl ⟨_, rfl, H9.out.2.2, H9.out.2.1⟩
set_option maxRecDepth 100000 in
set_option maxHeartbeats 4000000 in
theorem rr_ab (x y b : Av) (ca cb : List Value) (w : World) (ha : RC w (.node x y) ca) (hb : RC w b cb) (hm : Av.many (.node x y) + Av.many b ≤ 900000) (hs : Av.height (.node x y) = Av.height b + 2 ∧ ¬ Av.height x < Av.height y) :
    Calls Tryd.prog 87 #[.agg ca.toArray, .agg cb.toArray] w fun e w' => ∃ cs, e = .returned (.agg cs.toArray) ∧ RC w' (.node x (.node y b)) cs ∧ Below w.heap.size w w' := by
  have la := ha.len
  have lb := hb.len
  obtain ⟨g, cx, cy, hcs, hrx, hry, hx, hy⟩ := rnode ha
  have lx := hx.len
  have ly := hy.len
  have hgw := range_lt hrx (by rw [lx]; omega)
  obtain ⟨ah, eah⟩ : ∃ n, Av.height (.node x y) = n := ⟨_, rfl⟩
  obtain ⟨bh, ebh⟩ : ∃ n, Av.height b = n := ⟨_, rfl⟩
  have hma := Av.height_many (.node x y)
  have hmb := Av.height_many b
  rw [eah] at hma hs
  rw [ebh] at hmb hs
  obtain ⟨xh, exh⟩ : ∃ n, Av.height (x) = n := ⟨_, rfl⟩
  obtain ⟨yh, eyh⟩ : ∃ n, Av.height (y) = n := ⟨_, rfl⟩
  rw [exh, eyh] at hs
  have HD := Lib.hid (show IntKind.i64.wrap ((ah : Int) - (bh : Int)) = 2 by rw [IntWalk.i64_in _ ⟨by omega, by omega⟩]; omega)
  have hcmp : ¬ xh < yh := by omega
  have HM := Lib.hid hm
  obtain ⟨w1, hw1⟩ : ∃ w1, w1 = w.alloc (.cells ca.toArray 26) := ⟨_, rfl⟩
  obtain ⟨w2, hw2⟩ : ∃ w2, w2 = w1.alloc (.cells cb.toArray 26) := ⟨_, rfl⟩
  obtain ⟨w3, hw3⟩ : ∃ w3, w3 = w2.alloc (.cells emptyC.toArray 26) := ⟨_, rfl⟩
  obtain ⟨xa, hxa⟩ : ∃ n, n = w.heap.size := ⟨_, rfl⟩
  have s1 : w1.heap.size = xa + 1 := by rw [hw1, World.size_alloc, hxa]
  have s2 : w2.heap.size = xa + 1 + 1 := by rw [hw2, World.size_alloc, s1]
  have s3 : w3.heap.size = xa + 1 + 1 + 1 := by rw [hw3, World.size_alloc, s2]
  have b1 : Below w.heap.size w w1 := by rw [hw1]; exact (Below.refl _ _).alloc (Nat.le_refl _) _
  have b2 : Below w.heap.size w w2 := by rw [hw2]; exact b1.alloc b1.size _
  have b3 : Below w.heap.size w w3 := by rw [hw3]; exact b2.alloc b2.size _
  have z1 : Blk w3 xa 26 ca := by rw [hw3, hw2, hw1, hxa]; exact ((Blk_new w ca 26).alloc _).alloc _
  have z2 : Blk w3 (xa + 1) 26 cb := by rw [← s1, hw3, hw2]; exact (Blk_new w1 cb 26).alloc _
  have z3 : Blk w3 (xa + 1 + 1) 26 emptyC := by rw [← s2, hw3]; exact Blk_new w2 emptyC 26
  have HTS : Hid (∀ w', Off w3 (xa + 1 + 1) w' → w'.rangeAt xa 0 ca ∧ w'.rangeAt (xa + 1) 0 cb ∧ w'.cell? ⟨xa, 3, none⟩ = some (.slice (some ⟨g, 0, none⟩) 2 2) ∧ w'.rangeAt g 0 cx ∧ w'.rangeAt g 4 cy) := Lib.hid fun w' h => ⟨range_off (blk_range z1) h (by omega), range_off (blk_range z2) h (by omega), cell_off (z1.cellD 3 _ (by rw [hcs]; rfl)) h (by omega), range_off (range_below hrx b3) h (by omega), range_off (range_below hry b3) h (by omega)⟩
  have HT := Lib.hid (And.intro (ha.below b3) (And.intro (hb.below b3) (And.intro (hx.below b3) ((hy.below b3)))))
  have HW0 := Lib.hid b3
  have HX := Lib.hid z3
  have HXA := Lib.hid (And.intro hxa s3)
  have HEH := Lib.hid (And.intro eah ebh)
  have HEX := Lib.hid (And.intro exh eyh)
  have HC := Lib.hid hcs
  clear hcs
  have HG := Lib.hid (And.intro hgw (And.intro hrx hry))
  have HLX := Lib.hid (And.intro lx ly)
  have ica : (Tryd.prog.info? 26).map (·.size) = some ca.length := by rw [la]; kernel_rfl
  have icb : (Tryd.prog.info? 26).map (·.size) = some cb.length := by rw [lb]; kernel_rfl
  have icx : (Tryd.prog.info? 26).map (·.size) = some cx.length := by rw [lx]; kernel_rfl
  have icy : (Tryd.prog.info? 26).map (·.size) = some cy.length := by rw [ly]; kernel_rfl
  have uT := Tryd.underlying26
  go_enter Tryd.func87, Tryd.ntmps87
  go_upto_region 1 with fail
  change Code.wp _ _ _ _ (((w.alloc (.cells ca.toArray 26)).alloc (.cells cb.toArray 26)).alloc (.cells emptyC.toArray 26))
  rw [← hw1, ← hw2, ← hw3, ← hxa]
  have HB : Hid (Below w3.heap.size w3 (w3.drewN 1)) := Lib.hid (refl_drewN w3 1)
  clear hw1 hw2 hw3 s1 s2 s3 b1 b2 b3 z1 z2 z3 la lb hm hma hmb hs eah ebh ha hb hxa hrx hry hx hy lx ly hgw exh eyh
  refine wp_region_held_drew (S := (fun w' => w'.rangeAt xa 0 ca ∧ w'.rangeAt (xa + 1) 0 cb ∧ w'.cell? ⟨xa, 3, none⟩ = some (.slice (some ⟨g, 0, none⟩) 2 2) ∧ w'.rangeAt g 0 cx ∧ w'.rangeAt g 4 cy)) (by kernel_rfl) ?p1_s0 (fun hHeld => ?_)
  case p1_s0 => exact HTS.out _ (off_below HB.out)
  refine held_row (i := 0) rfl (by kernel_rfl) (by kernel_rfl) (by kernel_rfl) _ _ rfl _ _ rfl ?p1_1C ?p1_1D (fun _ _ _ h => h) (by rfl) ?p1_1a ?p1_1b ?p1_1c ?p1_1d hHeld ?_
  case p1_1a => (intro w hSw; (try dsimp only at hSw); go_split_ands; assumption)
  case p1_1b => assumption
  case p1_1c => rfl
  case p1_1d => first | assumption | (simp only [*]; done)
  try simp only [Act.put, List.setIfInBounds_toArray, List.set_cons_zero, List.set_cons_succ]
  refine held_row (i := 2) rfl (by kernel_rfl) (by kernel_rfl) (by kernel_rfl) _ _ rfl _ _ rfl ?p1_2C ?p1_2D (fun _ _ _ h => h) (by rfl) ?p1_2a ?p1_2b ?p1_2c ?p1_2d hHeld ?_
  case p1_2a => (intro w hSw; (try dsimp only at hSw); go_split_ands; assumption)
  case p1_2b => assumption
  case p1_2c => rfl
  case p1_2d => first | assumption | (simp only [*]; done)
  try simp only [Act.put, List.setIfInBounds_toArray, List.set_cons_zero, List.set_cons_succ]
  refine held_step (i := 1) rfl (by kernel_rfl) (by rfl) (fun K hK => ?_)
  go_simp
  refine (rheight_to ((.node x y)) ca _ (HT.out.1.below HB.out) ah HEH.out.1 (by have := HM.out; (try simp only [Av.many] at this ⊢); omega)).mono ?_
  rintro e wc ⟨rfl, hb⟩
  have HB := Lib.hid (below_then HB.out HB.out.size hb)
  clear hb
  go_wp2_with fail
  have hHeld := HTS.out _ (off_below HB.out)
  refine hK.out _ _ (HTS.out _ (off_below HB.out)) ?_
  clear hK K
  try simp only [Act.put, List.setIfInBounds_toArray, List.set_cons_zero, List.set_cons_succ]
  refine held_step (i := 3) rfl (by kernel_rfl) (by rfl) (fun K hK => ?_)
  go_simp
  refine (rheight_to (b) cb _ (HT.out.2.1.below HB.out) bh HEH.out.2 (by have := HM.out; (try simp only [Av.many] at this ⊢); omega)).mono ?_
  rintro e wc ⟨rfl, hb⟩
  have HB := Lib.hid (below_then HB.out HB.out.size hb)
  clear hb
  go_wp2_with fail
  have hHeld := HTS.out _ (off_below HB.out)
  refine hK.out _ _ (HTS.out _ (off_below HB.out)) ?_
  clear hK K
  try simp only [Act.put, List.setIfInBounds_toArray, List.set_cons_zero, List.set_cons_succ]
  refine held_take (i := 4) (v := (.int .i64 (2))) rfl (by kernel_rfl) (by kernel_rfl) (by kernel_rfl) (fun _ _ _ h => h) (by rfl) ?p1_3y hHeld ?_
  case p1_3y => (intro w _hSw; (try dsimp only at _hSw); go_simp; try rw [HD.out])
  try simp only [Act.put, List.setIfInBounds_toArray, List.set_cons_zero, List.set_cons_succ]
  refine held_take (i := 5) (v := ?p1_4v) rfl (by kernel_rfl) (by kernel_rfl) (by kernel_rfl) (fun _ _ _ h => h) (by rfl) ?p1_4y hHeld ?_
  case p1_4y => ((intro w _hSw; (try dsimp only at _hSw); go_simp); try (with_reducible rfl))
  try simp only [Act.put, List.setIfInBounds_toArray, List.set_cons_zero, List.set_cons_succ]
  refine wpAnyH_done (by kernel_rfl) ?_ _
  clear hHeld
  go_wp2_with fail
  have HB := Lib.hid (below_then HB.out HB.out.size (refl_drewN _ 1))
  go_cut [6, 7] from 17 (fun v6 v7 wr => ∃ g6 g7 : Nat, v6 = .pointer (some ⟨g6, 0, none⟩) ∧ v7 = .pointer (some ⟨g7, 0, none⟩) ∧ Below w3.heap.size w3 wr ∧ Blk wr g6 26 cx ∧ Blk wr g7 26 cy ∧ w3.heap.size ≤ g6 ∧ w3.heap.size ≤ g7)
  case first =>
    refine wp_region_held_drew (S := (fun w' => w'.rangeAt xa 0 ca ∧ w'.rangeAt (xa + 1) 0 cb ∧ w'.cell? ⟨xa, 3, none⟩ = some (.slice (some ⟨g, 0, none⟩) 2 2) ∧ w'.rangeAt g 0 cx ∧ w'.rangeAt g 4 cy)) (by kernel_rfl) ?p3_s0 (fun hHeld => ?_)
    case p3_s0 => exact HTS.out _ (off_below HB.out)
    refine held_take (i := 0) (v := ?p3_1v) rfl (by kernel_rfl) (by kernel_rfl) (by kernel_rfl) (fun _ _ _ h => h) (by rfl) ?p3_1y hHeld ?_
    case p3_1y => ((intro w _hSw; (try dsimp only at _hSw); go_simp); try (with_reducible rfl))
    try simp only [Act.put, List.setIfInBounds_toArray, List.set_cons_zero, List.set_cons_succ]
    refine held_take (i := 1) (v := ?p3_2v) rfl (by kernel_rfl) (by kernel_rfl) (by kernel_rfl) (fun _ _ _ h => h) (by rfl) ?p3_2y hHeld ?_
    case p3_2y => ((intro w _hSw; (try dsimp only at _hSw); go_simp); try (with_reducible rfl))
    try simp only [Act.put, List.setIfInBounds_toArray, List.set_cons_zero, List.set_cons_succ]
    refine held_take (i := 2) (v := ?p3_3v) rfl (by kernel_rfl) (by kernel_rfl) (by kernel_rfl) (fun _ _ _ h => h) (by rfl) ?p3_3y hHeld ?_
    case p3_3y => ((intro w _hSw; (try dsimp only at _hSw); go_simp); try (with_reducible rfl))
    try simp only [Act.put, List.setIfInBounds_toArray, List.set_cons_zero, List.set_cons_succ]
    refine held_row (i := 3) rfl (by kernel_rfl) (by kernel_rfl) (by kernel_rfl) _ _ rfl _ _ rfl ?p3_4C ?p3_4D (fun _ _ _ h => h) (by rfl) ?p3_4a ?p3_4b ?p3_4c ?p3_4d hHeld ?_
    case p3_4a => (intro w hSw; (try dsimp only at hSw); go_split_ands; assumption)
    case p3_4b => assumption
    case p3_4c => rfl
    case p3_4d => first | assumption | (simp only [*]; done)
    try simp only [Act.put, List.setIfInBounds_toArray, List.set_cons_zero, List.set_cons_succ]
    refine held_take (i := 4) (v := ?p3_5v) rfl (by kernel_rfl) (by kernel_rfl) (by kernel_rfl) (fun _ _ _ h => h) (by rfl) ?p3_5y hHeld ?_
    case p3_5y => ((intro w _hSw; (try dsimp only at _hSw); go_simp); try (with_reducible rfl))
    try simp only [Act.put, List.setIfInBounds_toArray, List.set_cons_zero, List.set_cons_succ]
    refine held_take (i := 5) (v := ?p3_6v) rfl (by kernel_rfl) (by kernel_rfl) (by kernel_rfl) (fun _ _ _ h => h) (by rfl) ?p3_6y hHeld ?_
    case p3_6y => ((intro w _hSw; (try dsimp only at _hSw); go_simp); try (with_reducible rfl))
    try simp only [Act.put, List.setIfInBounds_toArray, List.set_cons_zero, List.set_cons_succ]
    refine held_take (i := 6) (v := ?p3_7v) rfl (by kernel_rfl) (by kernel_rfl) (by kernel_rfl) (fun _ _ _ h => h) (by rfl) ?p3_7y hHeld ?_
    case p3_7y => ((intro w _hSw; (try dsimp only at _hSw); go_simp); try (with_reducible rfl))
    try simp only [Act.put, List.setIfInBounds_toArray, List.set_cons_zero, List.set_cons_succ]
    refine held_row (i := 7) rfl (by kernel_rfl) (by kernel_rfl) (by kernel_rfl) _ _ rfl _ _ rfl ?p3_8C ?p3_8D (fun _ _ _ h => h) (by rfl) ?p3_8a ?p3_8b ?p3_8c ?p3_8d hHeld ?_
    case p3_8a => (intro w hSw; (try dsimp only at hSw); go_split_ands; assumption)
    case p3_8b => assumption
    case p3_8c => rfl
    case p3_8d => first | assumption | (simp only [*]; done)
    try simp only [Act.put, List.setIfInBounds_toArray, List.set_cons_zero, List.set_cons_succ]
    refine held_two (i := 8) (j := 9) rfl rfl (by kernel_rfl) (by rfl) (by rfl) (fun K hK => ?_) (fun K hK => ?_)
    · skip
      go_simp
      try have HNE := Lib.hid (blk_lt2 HL7.out)
      try have HL7 := Lib.hid (HL7.out.alloc (.cells emptyC.toArray 26))
      first | have HL6 := Lib.hid (blk_new_at2 HB.out emptyC 26) | have HL6 := Lib.hid (blk_new_at HB.out emptyC 26)
      first | have HGL6 := Lib.hid (size_at2 HB.out) | have HGL6 := Lib.hid HB.out.size
      have HB := Lib.hid (HB.out.alloc HB.out.size (.cells emptyC.toArray 26))
      have hHeld := HTS.out _ (off_below HB.out)
      refine hK.out _ _ (HTS.out _ (off_below HB.out)) ?_
      clear hK K
      (try simp only [Act.put]); (try simp only [List.setIfInBounds_toArray]); (try simp only [List.set_cons_succ]); (try simp only [List.set_cons_zero])
      refine held_step (i := 9) rfl (by kernel_rfl) (by rfl) (fun K hK => ?_)
      go_simp
      try have HNE := Lib.hid (blk_lt2 HL6.out)
      try have HL6 := Lib.hid (HL6.out.alloc (.cells emptyC.toArray 26))
      first | have HL7 := Lib.hid (blk_new_at2 HB.out emptyC 26) | have HL7 := Lib.hid (blk_new_at HB.out emptyC 26)
      first | have HGL7 := Lib.hid (size_at2 HB.out) | have HGL7 := Lib.hid HB.out.size
      have HB := Lib.hid (HB.out.alloc HB.out.size (.cells emptyC.toArray 26))
      have hHeld := HTS.out _ (off_below HB.out)
      refine hK.out _ _ (HTS.out _ (off_below HB.out)) ?_
      clear hK K
      (try simp only [Act.put]); (try simp only [List.setIfInBounds_toArray]); (try simp only [List.set_cons_succ]); (try simp only [List.set_cons_zero])
      refine held_step (i := 10) rfl (by kernel_rfl) (by rfl) (fun K hK => ?_)
      refine wp_store_blk 26 (.tmp 6) (.tmp 20) rfl _ cx rfl rfl 26 _ HL6.out (by rw [HT.out.2.2.1.len]; kernel_rfl) (by rw [HT.out.2.2.1.len]; rfl) HT.out.2.2.1.one ?_
      intro wc hz hg
      have HL7 := Lib.hid (HL7.out.grown hg (by first | exact fun e => Nat.ne_of_lt HNE.out (Option.some.inj e) | exact fun e => Nat.ne_of_gt HNE.out (Option.some.inj e)))
      have HL6 := Lib.hid hz
      have HB := Lib.hid (HB.out.grown hg HB.out.size (fun q e => (Option.some.inj e) ▸ HGL6.out))
      clear hz hg
      have hHeld := HTS.out _ (off_below HB.out)
      refine hK.out _ _ (HTS.out _ (off_below HB.out)) ?_
      clear hK K
      (try simp only [Act.put]); (try simp only [List.setIfInBounds_toArray]); (try simp only [List.set_cons_succ]); (try simp only [List.set_cons_zero])
      refine held_step (i := 11) rfl (by kernel_rfl) (by rfl) (fun K hK => ?_)
      refine wp_store_blk 26 (.tmp 7) (.tmp 24) rfl _ cy rfl rfl 26 _ HL7.out (by rw [HT.out.2.2.2.len]; kernel_rfl) (by rw [HT.out.2.2.2.len]; rfl) HT.out.2.2.2.one ?_
      intro wc hz hg
      have HL6 := Lib.hid (HL6.out.grown hg (by first | exact fun e => Nat.ne_of_lt HNE.out (Option.some.inj e) | exact fun e => Nat.ne_of_gt HNE.out (Option.some.inj e)))
      have HL7 := Lib.hid hz
      have HB := Lib.hid (HB.out.grown hg HB.out.size (fun q e => (Option.some.inj e) ▸ HGL7.out))
      clear hz hg
      have hHeld := HTS.out _ (off_below HB.out)
      refine hK.out _ _ (HTS.out _ (off_below HB.out)) ?_
      clear hK K
      (try simp only [Act.put]); (try simp only [List.setIfInBounds_toArray]); (try simp only [List.set_cons_succ]); (try simp only [List.set_cons_zero])
      refine wpAnyH_done (by kernel_rfl) ?_ _
      go_wp2
      go_meet
      case rel => exact ⟨_, _, rfl, rfl, HB.out, HL6.out, HL7.out, HGL6.out, HGL7.out⟩
    · skip
      go_simp
      try have HNE := Lib.hid (blk_lt2 HL6.out)
      try have HL6 := Lib.hid (HL6.out.alloc (.cells emptyC.toArray 26))
      first | have HL7 := Lib.hid (blk_new_at2 HB.out emptyC 26) | have HL7 := Lib.hid (blk_new_at HB.out emptyC 26)
      first | have HGL7 := Lib.hid (size_at2 HB.out) | have HGL7 := Lib.hid HB.out.size
      have HB := Lib.hid (HB.out.alloc HB.out.size (.cells emptyC.toArray 26))
      have hHeld := HTS.out _ (off_below HB.out)
      refine hK.out _ _ (HTS.out _ (off_below HB.out)) ?_
      clear hK K
      (try simp only [Act.put]); (try simp only [List.setIfInBounds_toArray]); (try simp only [List.set_cons_succ]); (try simp only [List.set_cons_zero])
      refine held_step (i := 8) rfl (by kernel_rfl) (by rfl) (fun K hK => ?_)
      go_simp
      try have HNE := Lib.hid (blk_lt2 HL7.out)
      try have HL7 := Lib.hid (HL7.out.alloc (.cells emptyC.toArray 26))
      first | have HL6 := Lib.hid (blk_new_at2 HB.out emptyC 26) | have HL6 := Lib.hid (blk_new_at HB.out emptyC 26)
      first | have HGL6 := Lib.hid (size_at2 HB.out) | have HGL6 := Lib.hid HB.out.size
      have HB := Lib.hid (HB.out.alloc HB.out.size (.cells emptyC.toArray 26))
      have hHeld := HTS.out _ (off_below HB.out)
      refine hK.out _ _ (HTS.out _ (off_below HB.out)) ?_
      clear hK K
      (try simp only [Act.put]); (try simp only [List.setIfInBounds_toArray]); (try simp only [List.set_cons_succ]); (try simp only [List.set_cons_zero])
      refine held_step (i := 10) rfl (by kernel_rfl) (by rfl) (fun K hK => ?_)
      refine wp_store_blk 26 (.tmp 6) (.tmp 20) rfl _ cx rfl rfl 26 _ HL6.out (by rw [HT.out.2.2.1.len]; kernel_rfl) (by rw [HT.out.2.2.1.len]; rfl) HT.out.2.2.1.one ?_
      intro wc hz hg
      have HL7 := Lib.hid (HL7.out.grown hg (by first | exact fun e => Nat.ne_of_lt HNE.out (Option.some.inj e) | exact fun e => Nat.ne_of_gt HNE.out (Option.some.inj e)))
      have HL6 := Lib.hid hz
      have HB := Lib.hid (HB.out.grown hg HB.out.size (fun q e => (Option.some.inj e) ▸ HGL6.out))
      clear hz hg
      have hHeld := HTS.out _ (off_below HB.out)
      refine hK.out _ _ (HTS.out _ (off_below HB.out)) ?_
      clear hK K
      (try simp only [Act.put]); (try simp only [List.setIfInBounds_toArray]); (try simp only [List.set_cons_succ]); (try simp only [List.set_cons_zero])
      refine held_step (i := 11) rfl (by kernel_rfl) (by rfl) (fun K hK => ?_)
      refine wp_store_blk 26 (.tmp 7) (.tmp 24) rfl _ cy rfl rfl 26 _ HL7.out (by rw [HT.out.2.2.2.len]; kernel_rfl) (by rw [HT.out.2.2.2.len]; rfl) HT.out.2.2.2.one ?_
      intro wc hz hg
      have HL6 := Lib.hid (HL6.out.grown hg (by first | exact fun e => Nat.ne_of_lt HNE.out (Option.some.inj e) | exact fun e => Nat.ne_of_gt HNE.out (Option.some.inj e)))
      have HL7 := Lib.hid hz
      have HB := Lib.hid (HB.out.grown hg HB.out.size (fun q e => (Option.some.inj e) ▸ HGL7.out))
      clear hz hg
      have hHeld := HTS.out _ (off_below HB.out)
      refine hK.out _ _ (HTS.out _ (off_below HB.out)) ?_
      clear hK K
      (try simp only [Act.put]); (try simp only [List.setIfInBounds_toArray]); (try simp only [List.set_cons_succ]); (try simp only [List.set_cons_zero])
      refine wpAnyH_done (by kernel_rfl) ?_ _
      go_wp2
      go_meet
      case rel => exact ⟨_, _, rfl, rfl, HB.out, HL6.out, HL7.out, HGL6.out, HGL7.out⟩
  case rest =>
    obtain ⟨g6, g7, rfl, rfl, hb, h6, h7, l6, l7⟩ := hcut
    rw [HXA.out.2] at l6 l7
    have hxw := HXA.out.1
    have HTS : Hid (∀ w', Off wc (xa + 1 + 1) w' → w'.rangeAt g6 0 cx ∧ w'.rangeAt g7 0 cy ∧ w'.rangeAt (xa + 1) 0 cb) := Lib.hid fun w' h => ⟨range_off (blk_range h6) h (by omega), range_off (blk_range h7) h (by omega), range_off (range_below (HTS.out w3 (off_below (Below.refl _ _))).2.1 hb) h (by omega)⟩
    have HX := Lib.hid (HX.out.below hb)
    have HT := Lib.hid (And.intro (HT.out.1.below hb) (And.intro (HT.out.2.1.below hb) (And.intro (HT.out.2.2.1.below hb) ((HT.out.2.2.2.below hb)))))
    have HW0 := Lib.hid (below_then HW0.out HW0.out.size hb)
    have HB : Hid (Below wc.heap.size wc (wc.drewN 1)) := Lib.hid (refl_drewN wc 1)
    clear h6 h7 hb l6 l7 hxw
    go_wp2_with fail
    refine wp_region_held_drew (S := (fun w' => w'.rangeAt g6 0 cx ∧ w'.rangeAt g7 0 cy ∧ w'.rangeAt (xa + 1) 0 cb)) (by kernel_rfl) ?p4_s0 (fun hHeld => ?_)
    case p4_s0 => exact HTS.out _ (off_below HB.out)
    refine held_row (i := 0) rfl (by kernel_rfl) (by kernel_rfl) (by kernel_rfl) _ _ rfl _ _ rfl ?p4_1C ?p4_1D (fun _ _ _ h => h) (by rfl) ?p4_1a ?p4_1b ?p4_1c ?p4_1d hHeld ?_
    case p4_1a => (intro w hSw; (try dsimp only at hSw); go_split_ands; assumption)
    case p4_1b => assumption
    case p4_1c => rfl
    case p4_1d => first | assumption | (simp only [*]; done)
    try simp only [Act.put, List.setIfInBounds_toArray, List.set_cons_zero, List.set_cons_succ]
    refine held_row (i := 2) rfl (by kernel_rfl) (by kernel_rfl) (by kernel_rfl) _ _ rfl _ _ rfl ?p4_2C ?p4_2D (fun _ _ _ h => h) (by rfl) ?p4_2a ?p4_2b ?p4_2c ?p4_2d hHeld ?_
    case p4_2a => (intro w hSw; (try dsimp only at hSw); go_split_ands; assumption)
    case p4_2b => assumption
    case p4_2c => rfl
    case p4_2d => first | assumption | (simp only [*]; done)
    try simp only [Act.put, List.setIfInBounds_toArray, List.set_cons_zero, List.set_cons_succ]
    refine held_step (i := 1) rfl (by kernel_rfl) (by rfl) (fun K hK => ?_)
    go_simp
    refine (rheight_to (y) cy _ (HT.out.2.2.2.below HB.out) yh HEX.out.2 (by have := HM.out; (try simp only [Av.many] at this ⊢); omega)).mono ?_
    rintro e wc ⟨rfl, hb⟩
    have HB := Lib.hid (below_then HB.out HB.out.size hb)
    clear hb
    go_wp2_with fail
    have hHeld := HTS.out _ (off_below HB.out)
    refine hK.out _ _ (HTS.out _ (off_below HB.out)) ?_
    clear hK K
    try simp only [Act.put, List.setIfInBounds_toArray, List.set_cons_zero, List.set_cons_succ]
    refine held_step (i := 3) rfl (by kernel_rfl) (by rfl) (fun K hK => ?_)
    go_simp
    refine (rheight_to (x) cx _ (HT.out.2.2.1.below HB.out) xh HEX.out.1 (by have := HM.out; (try simp only [Av.many] at this ⊢); omega)).mono ?_
    rintro e wc ⟨rfl, hb⟩
    have HB := Lib.hid (below_then HB.out HB.out.size hb)
    clear hb
    go_wp2_with fail
    have hHeld := HTS.out _ (off_below HB.out)
    refine hK.out _ _ (HTS.out _ (off_below HB.out)) ?_
    clear hK K
    try simp only [Act.put, List.setIfInBounds_toArray, List.set_cons_zero, List.set_cons_succ]
    refine held_take (i := 4) (v := ?p4_3v) rfl (by kernel_rfl) (by kernel_rfl) (by kernel_rfl) (fun _ _ _ h => h) (by rfl) ?p4_3y hHeld ?_
    case p4_3y => ((intro w _hSw; (try dsimp only at _hSw); go_simp); try (with_reducible rfl))
    try simp only [Act.put, List.setIfInBounds_toArray, List.set_cons_zero, List.set_cons_succ]
    refine wpAnyH_done (by kernel_rfl) ?_ _
    clear hHeld
    go_wp2_with fail
    have HB := Lib.hid (below_then HB.out HB.out.size (refl_drewN _ 1))
    refine wp_region_held_drew (S := (fun w' => w'.rangeAt g6 0 cx ∧ w'.rangeAt g7 0 cy ∧ w'.rangeAt (xa + 1) 0 cb)) (by kernel_rfl) ?p5_s0 (fun hHeld => ?_)
    case p5_s0 => exact HTS.out _ (off_below HB.out)
    refine held_row (i := 0) rfl (by kernel_rfl) (by kernel_rfl) (by kernel_rfl) _ _ rfl _ _ rfl ?p5_1C ?p5_1D (fun _ _ _ h => h) (by rfl) ?p5_1a ?p5_1b ?p5_1c ?p5_1d hHeld ?_
    case p5_1a => (intro w hSw; (try dsimp only at hSw); go_split_ands; assumption)
    case p5_1b => assumption
    case p5_1c => rfl
    case p5_1d => first | assumption | (simp only [*]; done)
    try simp only [Act.put, List.setIfInBounds_toArray, List.set_cons_zero, List.set_cons_succ]
    refine held_row (i := 1) rfl (by kernel_rfl) (by kernel_rfl) (by kernel_rfl) _ _ rfl _ _ rfl ?p5_2C ?p5_2D (fun _ _ _ h => h) (by rfl) ?p5_2a ?p5_2b ?p5_2c ?p5_2d hHeld ?_
    case p5_2a => (intro w hSw; (try dsimp only at hSw); go_split_ands; assumption)
    case p5_2b => assumption
    case p5_2c => rfl
    case p5_2d => first | assumption | (simp only [*]; done)
    try simp only [Act.put, List.setIfInBounds_toArray, List.set_cons_zero, List.set_cons_succ]
    refine held_row (i := 2) rfl (by kernel_rfl) (by kernel_rfl) (by kernel_rfl) _ _ rfl _ _ rfl ?p5_3C ?p5_3D (fun _ _ _ h => h) (by rfl) ?p5_3a ?p5_3b ?p5_3c ?p5_3d hHeld ?_
    case p5_3a => (intro w hSw; (try dsimp only at hSw); go_split_ands; assumption)
    case p5_3b => assumption
    case p5_3c => rfl
    case p5_3d => first | assumption | (simp only [*]; done)
    try simp only [Act.put, List.setIfInBounds_toArray, List.set_cons_zero, List.set_cons_succ]
    refine held_step (i := 3) rfl (by kernel_rfl) (by rfl) (fun K hK => ?_)
    go_simp
    refine (rtwo_any (y) (b) cy cb _ (HT.out.2.2.2.below HB.out) (HT.out.2.1.below HB.out)).mono ?_
    rintro e wc ⟨q1, rfl, hn, hb⟩
    have Hq1 := Lib.hid hn
    have HB := Lib.hid (below_then HB.out HB.out.size hb)
    clear hn hb
    go_wp2_with fail
    have hHeld := HTS.out _ (off_below HB.out)
    refine hK.out _ _ (HTS.out _ (off_below HB.out)) ?_
    clear hK K
    try simp only [Act.put, List.setIfInBounds_toArray, List.set_cons_zero, List.set_cons_succ]
    refine held_step (i := 4) rfl (by kernel_rfl) (by rfl) (fun K hK => ?_)
    go_simp
    refine (rtwo_any (x) (.node y b) cx q1 _ (HT.out.2.2.1.below HB.out) Hq1.out).mono ?_
    rintro e wc ⟨q3, rfl, hn, hb⟩
    have Hq3 := Lib.hid hn
    have HB := Lib.hid (below_then HB.out HB.out.size hb)
    clear hn hb
    go_wp2_with fail
    have hHeld := HTS.out _ (off_below HB.out)
    refine hK.out _ _ (HTS.out _ (off_below HB.out)) ?_
    clear hK K
    try simp only [Act.put, List.setIfInBounds_toArray, List.set_cons_zero, List.set_cons_succ]
    refine held_step (i := 5) rfl (by kernel_rfl) (by rfl) (fun K hK => ?_)
    refine wp_store_blk 26 (.tmp 4) (.tmp 47) rfl (xa + 1 + 1) q3 rfl rfl 26 _ (HX.out.below HB.out) (by rw [Hq3.out.len]; kernel_rfl) (by rw [Hq3.out.len]; rfl) Hq3.out.one ?_
    intro w9 hz hg
    have H9 := Lib.hid (And.intro hz (And.intro ((below_then HW0.out HW0.out.size HB.out).grown hg (below_then HW0.out HW0.out.size HB.out).size (fun q e => by injection e with e; have := HXA.out; omega)) (RC.store (HX.out.below HB.out) hg Hq3.out)))
    have HS9 := Lib.hid (off_store HB.out hg)
    clear hz hg
    have hHeld := HTS.out _ HS9.out
    refine hK.out _ _ (HTS.out _ HS9.out) ?_
    clear hK K
    (try simp only [Act.put]); (try simp only [List.setIfInBounds_toArray]); (try simp only [List.set_cons_succ]); (try simp only [List.set_cons_zero])
    refine wpAnyH_done (by kernel_rfl) ?_ _
    go_wp2
    refine bodyPost_ret (results_blk rfl _ _ (xa + 1 + 1) 26 q3 _ rfl H9.out.1 uT rfl (by rw [Hq3.out.len]; kernel_rfl)) rfl ⟨_, rfl, H9.out.2.2, H9.out.2.1⟩
set_option maxRecDepth 100000 in
set_option maxHeartbeats 4000000 in
theorem rr_ba (a x1 x2 y : Av) (ca cb : List Value) (w : World) (ha : RC w a ca) (hb : RC w (.node (.node x1 x2) y) cb) (hm : Av.many a + Av.many (.node (.node x1 x2) y) ≤ 900000) (hs : Av.height (.node (.node x1 x2) y) = Av.height a + 2 ∧ Av.height y < Av.height (.node x1 x2)) :
    Calls Tryd.prog 87 #[.agg ca.toArray, .agg cb.toArray] w fun e w' => ∃ cs, e = .returned (.agg cs.toArray) ∧ RC w' (.node (.node a x1) (.node x2 y)) cs ∧ Below w.heap.size w w' := by
  have la := ha.len
  have lb := hb.len
  obtain ⟨g, cx, cy, hcs, hrx, hry, hx, hy⟩ := rnode hb
  have lx := hx.len
  have ly := hy.len
  have hgw := range_lt hrx (by rw [lx]; omega)
  obtain ⟨g', c1, c2, hcs', hr1, hr2, h1, h2⟩ := rnode hx
  have l1 := h1.len
  have l2 := h2.len
  have hgw' := range_lt hr1 (by rw [l1]; omega)
  obtain ⟨ah, eah⟩ : ∃ n, Av.height a = n := ⟨_, rfl⟩
  obtain ⟨bh, ebh⟩ : ∃ n, Av.height (.node (.node x1 x2) y) = n := ⟨_, rfl⟩
  have hma := Av.height_many a
  have hmb := Av.height_many (.node (.node x1 x2) y)
  rw [eah] at hma hs
  rw [ebh] at hmb hs
  obtain ⟨xh, exh⟩ : ∃ n, Av.height (.node x1 x2) = n := ⟨_, rfl⟩
  obtain ⟨yh, eyh⟩ : ∃ n, Av.height (y) = n := ⟨_, rfl⟩
  rw [exh, eyh] at hs
  have HD := Lib.hid (show IntKind.i64.wrap ((ah : Int) - (bh : Int)) = -2 by rw [IntWalk.i64_in _ ⟨by omega, by omega⟩]; omega)
  have hcmp : yh < xh := by omega
  have HM := Lib.hid hm
  obtain ⟨w1, hw1⟩ : ∃ w1, w1 = w.alloc (.cells ca.toArray 26) := ⟨_, rfl⟩
  obtain ⟨w2, hw2⟩ : ∃ w2, w2 = w1.alloc (.cells cb.toArray 26) := ⟨_, rfl⟩
  obtain ⟨w3, hw3⟩ : ∃ w3, w3 = w2.alloc (.cells emptyC.toArray 26) := ⟨_, rfl⟩
  obtain ⟨xa, hxa⟩ : ∃ n, n = w.heap.size := ⟨_, rfl⟩
  have s1 : w1.heap.size = xa + 1 := by rw [hw1, World.size_alloc, hxa]
  have s2 : w2.heap.size = xa + 1 + 1 := by rw [hw2, World.size_alloc, s1]
  have s3 : w3.heap.size = xa + 1 + 1 + 1 := by rw [hw3, World.size_alloc, s2]
  have b1 : Below w.heap.size w w1 := by rw [hw1]; exact (Below.refl _ _).alloc (Nat.le_refl _) _
  have b2 : Below w.heap.size w w2 := by rw [hw2]; exact b1.alloc b1.size _
  have b3 : Below w.heap.size w w3 := by rw [hw3]; exact b2.alloc b2.size _
  have z1 : Blk w3 xa 26 ca := by rw [hw3, hw2, hw1, hxa]; exact ((Blk_new w ca 26).alloc _).alloc _
  have z2 : Blk w3 (xa + 1) 26 cb := by rw [← s1, hw3, hw2]; exact (Blk_new w1 cb 26).alloc _
  have z3 : Blk w3 (xa + 1 + 1) 26 emptyC := by rw [← s2, hw3]; exact Blk_new w2 emptyC 26
  have HTS : Hid (∀ w', Off w3 (xa + 1 + 1) w' → w'.rangeAt xa 0 ca ∧ w'.rangeAt (xa + 1) 0 cb ∧ w'.cell? ⟨(xa + 1), 3, none⟩ = some (.slice (some ⟨g, 0, none⟩) 2 2) ∧ w'.rangeAt g 0 cx ∧ w'.rangeAt g 4 cy) := Lib.hid fun w' h => ⟨range_off (blk_range z1) h (by omega), range_off (blk_range z2) h (by omega), cell_off (z2.cellD 3 _ (by rw [hcs]; rfl)) h (by omega), range_off (range_below hrx b3) h (by omega), range_off (range_below hry b3) h (by omega)⟩
  have HT := Lib.hid (And.intro (ha.below b3) (And.intro (hb.below b3) (And.intro (hx.below b3) (And.intro (hy.below b3) (And.intro (h1.below b3) ((h2.below b3)))))))
  have HW0 := Lib.hid b3
  have HX := Lib.hid z3
  have HXA := Lib.hid (And.intro hxa s3)
  have HEH := Lib.hid (And.intro eah ebh)
  have HEX := Lib.hid (And.intro exh eyh)
  have HC := Lib.hid hcs
  clear hcs
  have HG := Lib.hid (And.intro hgw (And.intro hrx hry))
  have HLX := Lib.hid (And.intro lx ly)
  have HC' := Lib.hid hcs'
  clear hcs'
  have HG' := Lib.hid (And.intro hgw' (And.intro hr1 hr2))
  have ica : (Tryd.prog.info? 26).map (·.size) = some ca.length := by rw [la]; kernel_rfl
  have icb : (Tryd.prog.info? 26).map (·.size) = some cb.length := by rw [lb]; kernel_rfl
  have icx : (Tryd.prog.info? 26).map (·.size) = some cx.length := by rw [lx]; kernel_rfl
  have icy : (Tryd.prog.info? 26).map (·.size) = some cy.length := by rw [ly]; kernel_rfl
  have ic1 : (Tryd.prog.info? 26).map (·.size) = some c1.length := by rw [l1]; kernel_rfl
  have ic2 : (Tryd.prog.info? 26).map (·.size) = some c2.length := by rw [l2]; kernel_rfl
  have uT := Tryd.underlying26
  go_enter Tryd.func87, Tryd.ntmps87
  go_upto_region 1 with fail
  change Code.wp _ _ _ _ (((w.alloc (.cells ca.toArray 26)).alloc (.cells cb.toArray 26)).alloc (.cells emptyC.toArray 26))
  rw [← hw1, ← hw2, ← hw3, ← hxa]
  have HB : Hid (Below w3.heap.size w3 (w3.drewN 1)) := Lib.hid (refl_drewN w3 1)
  clear hw1 hw2 hw3 s1 s2 s3 b1 b2 b3 z1 z2 z3 la lb hm hma hmb hs eah ebh ha hb hxa hrx hry hx hy lx ly hgw exh eyh hr1 hr2 h1 h2 l1 l2 hgw'
  refine wp_region_held_drew (S := (fun w' => w'.rangeAt xa 0 ca ∧ w'.rangeAt (xa + 1) 0 cb ∧ w'.cell? ⟨(xa + 1), 3, none⟩ = some (.slice (some ⟨g, 0, none⟩) 2 2) ∧ w'.rangeAt g 0 cx ∧ w'.rangeAt g 4 cy)) (by kernel_rfl) ?p1_s0 (fun hHeld => ?_)
  case p1_s0 => exact HTS.out _ (off_below HB.out)
  refine held_row (i := 0) rfl (by kernel_rfl) (by kernel_rfl) (by kernel_rfl) _ _ rfl _ _ rfl ?p1_1C ?p1_1D (fun _ _ _ h => h) (by rfl) ?p1_1a ?p1_1b ?p1_1c ?p1_1d hHeld ?_
  case p1_1a => (intro w hSw; (try dsimp only at hSw); go_split_ands; assumption)
  case p1_1b => assumption
  case p1_1c => rfl
  case p1_1d => first | assumption | (simp only [*]; done)
  try simp only [Act.put, List.setIfInBounds_toArray, List.set_cons_zero, List.set_cons_succ]
  refine held_row (i := 2) rfl (by kernel_rfl) (by kernel_rfl) (by kernel_rfl) _ _ rfl _ _ rfl ?p1_2C ?p1_2D (fun _ _ _ h => h) (by rfl) ?p1_2a ?p1_2b ?p1_2c ?p1_2d hHeld ?_
  case p1_2a => (intro w hSw; (try dsimp only at hSw); go_split_ands; assumption)
  case p1_2b => assumption
  case p1_2c => rfl
  case p1_2d => first | assumption | (simp only [*]; done)
  try simp only [Act.put, List.setIfInBounds_toArray, List.set_cons_zero, List.set_cons_succ]
  refine held_step (i := 1) rfl (by kernel_rfl) (by rfl) (fun K hK => ?_)
  go_simp
  refine (rheight_to (a) ca _ (HT.out.1.below HB.out) ah HEH.out.1 (by have := HM.out; (try simp only [Av.many] at this ⊢); omega)).mono ?_
  rintro e wc ⟨rfl, hb⟩
  have HB := Lib.hid (below_then HB.out HB.out.size hb)
  clear hb
  go_wp2_with fail
  have hHeld := HTS.out _ (off_below HB.out)
  refine hK.out _ _ (HTS.out _ (off_below HB.out)) ?_
  clear hK K
  try simp only [Act.put, List.setIfInBounds_toArray, List.set_cons_zero, List.set_cons_succ]
  refine held_step (i := 3) rfl (by kernel_rfl) (by rfl) (fun K hK => ?_)
  go_simp
  refine (rheight_to ((.node (.node x1 x2) y)) cb _ (HT.out.2.1.below HB.out) bh HEH.out.2 (by have := HM.out; (try simp only [Av.many] at this ⊢); omega)).mono ?_
  rintro e wc ⟨rfl, hb⟩
  have HB := Lib.hid (below_then HB.out HB.out.size hb)
  clear hb
  go_wp2_with fail
  have hHeld := HTS.out _ (off_below HB.out)
  refine hK.out _ _ (HTS.out _ (off_below HB.out)) ?_
  clear hK K
  try simp only [Act.put, List.setIfInBounds_toArray, List.set_cons_zero, List.set_cons_succ]
  refine held_take (i := 4) (v := (.int .i64 (-2))) rfl (by kernel_rfl) (by kernel_rfl) (by kernel_rfl) (fun _ _ _ h => h) (by rfl) ?p1_3y hHeld ?_
  case p1_3y => (intro w _hSw; (try dsimp only at _hSw); go_simp; try rw [HD.out])
  try simp only [Act.put, List.setIfInBounds_toArray, List.set_cons_zero, List.set_cons_succ]
  refine held_take (i := 5) (v := ?p1_4v) rfl (by kernel_rfl) (by kernel_rfl) (by kernel_rfl) (fun _ _ _ h => h) (by rfl) ?p1_4y hHeld ?_
  case p1_4y => ((intro w _hSw; (try dsimp only at _hSw); go_simp); try (with_reducible rfl))
  try simp only [Act.put, List.setIfInBounds_toArray, List.set_cons_zero, List.set_cons_succ]
  refine wpAnyH_done (by kernel_rfl) ?_ _
  clear hHeld
  go_wp2_with fail
  have HB := Lib.hid (below_then HB.out HB.out.size (refl_drewN _ 1))
  go_cut [8, 9] from 50 (fun v6 v7 wr => ∃ g6 g7 : Nat, v6 = .pointer (some ⟨g6, 0, none⟩) ∧ v7 = .pointer (some ⟨g7, 0, none⟩) ∧ Below w3.heap.size w3 wr ∧ Blk wr g6 26 cx ∧ Blk wr g7 26 cy ∧ w3.heap.size ≤ g6 ∧ w3.heap.size ≤ g7)
  case first =>
    refine wp_region_held_drew (S := (fun w' => w'.rangeAt xa 0 ca ∧ w'.rangeAt (xa + 1) 0 cb ∧ w'.cell? ⟨(xa + 1), 3, none⟩ = some (.slice (some ⟨g, 0, none⟩) 2 2) ∧ w'.rangeAt g 0 cx ∧ w'.rangeAt g 4 cy)) (by kernel_rfl) ?p3_s0 (fun hHeld => ?_)
    case p3_s0 => exact HTS.out _ (off_below HB.out)
    refine held_take (i := 0) (v := ?p3_1v) rfl (by kernel_rfl) (by kernel_rfl) (by kernel_rfl) (fun _ _ _ h => h) (by rfl) ?p3_1y hHeld ?_
    case p3_1y => ((intro w _hSw; (try dsimp only at _hSw); go_simp); try (with_reducible rfl))
    try simp only [Act.put, List.setIfInBounds_toArray, List.set_cons_zero, List.set_cons_succ]
    refine held_take (i := 1) (v := ?p3_2v) rfl (by kernel_rfl) (by kernel_rfl) (by kernel_rfl) (fun _ _ _ h => h) (by rfl) ?p3_2y hHeld ?_
    case p3_2y => ((intro w _hSw; (try dsimp only at _hSw); go_simp); try (with_reducible rfl))
    try simp only [Act.put, List.setIfInBounds_toArray, List.set_cons_zero, List.set_cons_succ]
    refine held_take (i := 2) (v := ?p3_3v) rfl (by kernel_rfl) (by kernel_rfl) (by kernel_rfl) (fun _ _ _ h => h) (by rfl) ?p3_3y hHeld ?_
    case p3_3y => ((intro w _hSw; (try dsimp only at _hSw); go_simp); try (with_reducible rfl))
    try simp only [Act.put, List.setIfInBounds_toArray, List.set_cons_zero, List.set_cons_succ]
    refine held_row (i := 3) rfl (by kernel_rfl) (by kernel_rfl) (by kernel_rfl) _ _ rfl _ _ rfl ?p3_4C ?p3_4D (fun _ _ _ h => h) (by rfl) ?p3_4a ?p3_4b ?p3_4c ?p3_4d hHeld ?_
    case p3_4a => (intro w hSw; (try dsimp only at hSw); go_split_ands; assumption)
    case p3_4b => assumption
    case p3_4c => rfl
    case p3_4d => first | assumption | (simp only [*]; done)
    try simp only [Act.put, List.setIfInBounds_toArray, List.set_cons_zero, List.set_cons_succ]
    refine held_take (i := 4) (v := ?p3_5v) rfl (by kernel_rfl) (by kernel_rfl) (by kernel_rfl) (fun _ _ _ h => h) (by rfl) ?p3_5y hHeld ?_
    case p3_5y => ((intro w _hSw; (try dsimp only at _hSw); go_simp); try (with_reducible rfl))
    try simp only [Act.put, List.setIfInBounds_toArray, List.set_cons_zero, List.set_cons_succ]
    refine held_take (i := 5) (v := ?p3_6v) rfl (by kernel_rfl) (by kernel_rfl) (by kernel_rfl) (fun _ _ _ h => h) (by rfl) ?p3_6y hHeld ?_
    case p3_6y => ((intro w _hSw; (try dsimp only at _hSw); go_simp); try (with_reducible rfl))
    try simp only [Act.put, List.setIfInBounds_toArray, List.set_cons_zero, List.set_cons_succ]
    refine held_take (i := 6) (v := ?p3_7v) rfl (by kernel_rfl) (by kernel_rfl) (by kernel_rfl) (fun _ _ _ h => h) (by rfl) ?p3_7y hHeld ?_
    case p3_7y => ((intro w _hSw; (try dsimp only at _hSw); go_simp); try (with_reducible rfl))
    try simp only [Act.put, List.setIfInBounds_toArray, List.set_cons_zero, List.set_cons_succ]
    refine held_row (i := 7) rfl (by kernel_rfl) (by kernel_rfl) (by kernel_rfl) _ _ rfl _ _ rfl ?p3_8C ?p3_8D (fun _ _ _ h => h) (by rfl) ?p3_8a ?p3_8b ?p3_8c ?p3_8d hHeld ?_
    case p3_8a => (intro w hSw; (try dsimp only at hSw); go_split_ands; assumption)
    case p3_8b => assumption
    case p3_8c => rfl
    case p3_8d => first | assumption | (simp only [*]; done)
    try simp only [Act.put, List.setIfInBounds_toArray, List.set_cons_zero, List.set_cons_succ]
    refine held_two (i := 8) (j := 9) rfl rfl (by kernel_rfl) (by rfl) (by rfl) (fun K hK => ?_) (fun K hK => ?_)
    · skip
      go_simp
      try have HNE := Lib.hid (blk_lt2 HL7.out)
      try have HL7 := Lib.hid (HL7.out.alloc (.cells emptyC.toArray 26))
      first | have HL6 := Lib.hid (blk_new_at2 HB.out emptyC 26) | have HL6 := Lib.hid (blk_new_at HB.out emptyC 26)
      first | have HGL6 := Lib.hid (size_at2 HB.out) | have HGL6 := Lib.hid HB.out.size
      have HB := Lib.hid (HB.out.alloc HB.out.size (.cells emptyC.toArray 26))
      have hHeld := HTS.out _ (off_below HB.out)
      refine hK.out _ _ (HTS.out _ (off_below HB.out)) ?_
      clear hK K
      (try simp only [Act.put]); (try simp only [List.setIfInBounds_toArray]); (try simp only [List.set_cons_succ]); (try simp only [List.set_cons_zero])
      refine held_step (i := 9) rfl (by kernel_rfl) (by rfl) (fun K hK => ?_)
      go_simp
      try have HNE := Lib.hid (blk_lt2 HL6.out)
      try have HL6 := Lib.hid (HL6.out.alloc (.cells emptyC.toArray 26))
      first | have HL7 := Lib.hid (blk_new_at2 HB.out emptyC 26) | have HL7 := Lib.hid (blk_new_at HB.out emptyC 26)
      first | have HGL7 := Lib.hid (size_at2 HB.out) | have HGL7 := Lib.hid HB.out.size
      have HB := Lib.hid (HB.out.alloc HB.out.size (.cells emptyC.toArray 26))
      have hHeld := HTS.out _ (off_below HB.out)
      refine hK.out _ _ (HTS.out _ (off_below HB.out)) ?_
      clear hK K
      (try simp only [Act.put]); (try simp only [List.setIfInBounds_toArray]); (try simp only [List.set_cons_succ]); (try simp only [List.set_cons_zero])
      refine held_step (i := 10) rfl (by kernel_rfl) (by rfl) (fun K hK => ?_)
      refine wp_store_blk 26 (.tmp 8) (.tmp 53) rfl _ cx rfl rfl 26 _ HL6.out (by rw [HT.out.2.2.1.len]; kernel_rfl) (by rw [HT.out.2.2.1.len]; rfl) HT.out.2.2.1.one ?_
      intro wc hz hg
      have HL7 := Lib.hid (HL7.out.grown hg (by first | exact fun e => Nat.ne_of_lt HNE.out (Option.some.inj e) | exact fun e => Nat.ne_of_gt HNE.out (Option.some.inj e)))
      have HL6 := Lib.hid hz
      have HB := Lib.hid (HB.out.grown hg HB.out.size (fun q e => (Option.some.inj e) ▸ HGL6.out))
      clear hz hg
      have hHeld := HTS.out _ (off_below HB.out)
      refine hK.out _ _ (HTS.out _ (off_below HB.out)) ?_
      clear hK K
      (try simp only [Act.put]); (try simp only [List.setIfInBounds_toArray]); (try simp only [List.set_cons_succ]); (try simp only [List.set_cons_zero])
      refine held_step (i := 11) rfl (by kernel_rfl) (by rfl) (fun K hK => ?_)
      refine wp_store_blk 26 (.tmp 9) (.tmp 57) rfl _ cy rfl rfl 26 _ HL7.out (by rw [HT.out.2.2.2.1.len]; kernel_rfl) (by rw [HT.out.2.2.2.1.len]; rfl) HT.out.2.2.2.1.one ?_
      intro wc hz hg
      have HL6 := Lib.hid (HL6.out.grown hg (by first | exact fun e => Nat.ne_of_lt HNE.out (Option.some.inj e) | exact fun e => Nat.ne_of_gt HNE.out (Option.some.inj e)))
      have HL7 := Lib.hid hz
      have HB := Lib.hid (HB.out.grown hg HB.out.size (fun q e => (Option.some.inj e) ▸ HGL7.out))
      clear hz hg
      have hHeld := HTS.out _ (off_below HB.out)
      refine hK.out _ _ (HTS.out _ (off_below HB.out)) ?_
      clear hK K
      (try simp only [Act.put]); (try simp only [List.setIfInBounds_toArray]); (try simp only [List.set_cons_succ]); (try simp only [List.set_cons_zero])
      refine wpAnyH_done (by kernel_rfl) ?_ _
      go_wp2
      go_meet
      case rel => exact ⟨_, _, rfl, rfl, HB.out, HL6.out, HL7.out, HGL6.out, HGL7.out⟩
    · skip
      go_simp
      try have HNE := Lib.hid (blk_lt2 HL6.out)
      try have HL6 := Lib.hid (HL6.out.alloc (.cells emptyC.toArray 26))
      first | have HL7 := Lib.hid (blk_new_at2 HB.out emptyC 26) | have HL7 := Lib.hid (blk_new_at HB.out emptyC 26)
      first | have HGL7 := Lib.hid (size_at2 HB.out) | have HGL7 := Lib.hid HB.out.size
      have HB := Lib.hid (HB.out.alloc HB.out.size (.cells emptyC.toArray 26))
      have hHeld := HTS.out _ (off_below HB.out)
      refine hK.out _ _ (HTS.out _ (off_below HB.out)) ?_
      clear hK K
      (try simp only [Act.put]); (try simp only [List.setIfInBounds_toArray]); (try simp only [List.set_cons_succ]); (try simp only [List.set_cons_zero])
      refine held_step (i := 8) rfl (by kernel_rfl) (by rfl) (fun K hK => ?_)
      go_simp
      try have HNE := Lib.hid (blk_lt2 HL7.out)
      try have HL7 := Lib.hid (HL7.out.alloc (.cells emptyC.toArray 26))
      first | have HL6 := Lib.hid (blk_new_at2 HB.out emptyC 26) | have HL6 := Lib.hid (blk_new_at HB.out emptyC 26)
      first | have HGL6 := Lib.hid (size_at2 HB.out) | have HGL6 := Lib.hid HB.out.size
      have HB := Lib.hid (HB.out.alloc HB.out.size (.cells emptyC.toArray 26))
      have hHeld := HTS.out _ (off_below HB.out)
      refine hK.out _ _ (HTS.out _ (off_below HB.out)) ?_
      clear hK K
      (try simp only [Act.put]); (try simp only [List.setIfInBounds_toArray]); (try simp only [List.set_cons_succ]); (try simp only [List.set_cons_zero])
      refine held_step (i := 10) rfl (by kernel_rfl) (by rfl) (fun K hK => ?_)
      refine wp_store_blk 26 (.tmp 8) (.tmp 53) rfl _ cx rfl rfl 26 _ HL6.out (by rw [HT.out.2.2.1.len]; kernel_rfl) (by rw [HT.out.2.2.1.len]; rfl) HT.out.2.2.1.one ?_
      intro wc hz hg
      have HL7 := Lib.hid (HL7.out.grown hg (by first | exact fun e => Nat.ne_of_lt HNE.out (Option.some.inj e) | exact fun e => Nat.ne_of_gt HNE.out (Option.some.inj e)))
      have HL6 := Lib.hid hz
      have HB := Lib.hid (HB.out.grown hg HB.out.size (fun q e => (Option.some.inj e) ▸ HGL6.out))
      clear hz hg
      have hHeld := HTS.out _ (off_below HB.out)
      refine hK.out _ _ (HTS.out _ (off_below HB.out)) ?_
      clear hK K
      (try simp only [Act.put]); (try simp only [List.setIfInBounds_toArray]); (try simp only [List.set_cons_succ]); (try simp only [List.set_cons_zero])
      refine held_step (i := 11) rfl (by kernel_rfl) (by rfl) (fun K hK => ?_)
      refine wp_store_blk 26 (.tmp 9) (.tmp 57) rfl _ cy rfl rfl 26 _ HL7.out (by rw [HT.out.2.2.2.1.len]; kernel_rfl) (by rw [HT.out.2.2.2.1.len]; rfl) HT.out.2.2.2.1.one ?_
      intro wc hz hg
      have HL6 := Lib.hid (HL6.out.grown hg (by first | exact fun e => Nat.ne_of_lt HNE.out (Option.some.inj e) | exact fun e => Nat.ne_of_gt HNE.out (Option.some.inj e)))
      have HL7 := Lib.hid hz
      have HB := Lib.hid (HB.out.grown hg HB.out.size (fun q e => (Option.some.inj e) ▸ HGL7.out))
      clear hz hg
      have hHeld := HTS.out _ (off_below HB.out)
      refine hK.out _ _ (HTS.out _ (off_below HB.out)) ?_
      clear hK K
      (try simp only [Act.put]); (try simp only [List.setIfInBounds_toArray]); (try simp only [List.set_cons_succ]); (try simp only [List.set_cons_zero])
      refine wpAnyH_done (by kernel_rfl) ?_ _
      go_wp2
      go_meet
      case rel => exact ⟨_, _, rfl, rfl, HB.out, HL6.out, HL7.out, HGL6.out, HGL7.out⟩
  case rest =>
    obtain ⟨g6, g7, rfl, rfl, hb, h6, h7, l6, l7⟩ := hcut
    rw [HXA.out.2] at l6 l7
    have hxw := HXA.out.1
    have hgw' := HG'.out.1
    have HTS : Hid (∀ w', Off wc (xa + 1 + 1) w' → w'.rangeAt g6 0 cx ∧ w'.rangeAt g7 0 cy ∧ w'.rangeAt xa 0 ca ∧ w'.cell? ⟨g6, 3, none⟩ = some (.slice (some ⟨g', 0, none⟩) 2 2) ∧ w'.rangeAt g' 0 c1 ∧ w'.rangeAt g' 4 c2) := Lib.hid fun w' h => ⟨range_off (blk_range h6) h (by omega), range_off (blk_range h7) h (by omega), range_off (range_below (HTS.out w3 (off_below (Below.refl _ _))).1 hb) h (by omega), cell_off (h6.cellD 3 _ (by rw [HC'.out]; rfl)) h (by omega), range_off (range_below (range_below HG'.out.2.1 HW0.out) hb) h (by omega), range_off (range_below (range_below HG'.out.2.2 HW0.out) hb) h (by omega)⟩
    have HX := Lib.hid (HX.out.below hb)
    have HT := Lib.hid (And.intro (HT.out.1.below hb) (And.intro (HT.out.2.1.below hb) (And.intro (HT.out.2.2.1.below hb) (And.intro (HT.out.2.2.2.1.below hb) (And.intro (HT.out.2.2.2.2.1.below hb) ((HT.out.2.2.2.2.2.below hb)))))))
    have HW0 := Lib.hid (below_then HW0.out HW0.out.size hb)
    have HB : Hid (Below wc.heap.size wc (wc.drewN 1)) := Lib.hid (refl_drewN wc 1)
    clear h6 h7 hb l6 l7 hxw hgw'
    go_wp2_with fail
    refine wp_region_held_drew (S := (fun w' => w'.rangeAt g6 0 cx ∧ w'.rangeAt g7 0 cy ∧ w'.rangeAt xa 0 ca ∧ w'.cell? ⟨g6, 3, none⟩ = some (.slice (some ⟨g', 0, none⟩) 2 2) ∧ w'.rangeAt g' 0 c1 ∧ w'.rangeAt g' 4 c2)) (by kernel_rfl) ?p4_s0 (fun hHeld => ?_)
    case p4_s0 => exact HTS.out _ (off_below HB.out)
    refine held_row (i := 0) rfl (by kernel_rfl) (by kernel_rfl) (by kernel_rfl) _ _ rfl _ _ rfl ?p4_1C ?p4_1D (fun _ _ _ h => h) (by rfl) ?p4_1a ?p4_1b ?p4_1c ?p4_1d hHeld ?_
    case p4_1a => (intro w hSw; (try dsimp only at hSw); go_split_ands; assumption)
    case p4_1b => assumption
    case p4_1c => rfl
    case p4_1d => first | assumption | (simp only [*]; done)
    try simp only [Act.put, List.setIfInBounds_toArray, List.set_cons_zero, List.set_cons_succ]
    refine held_row (i := 2) rfl (by kernel_rfl) (by kernel_rfl) (by kernel_rfl) _ _ rfl _ _ rfl ?p4_2C ?p4_2D (fun _ _ _ h => h) (by rfl) ?p4_2a ?p4_2b ?p4_2c ?p4_2d hHeld ?_
    case p4_2a => (intro w hSw; (try dsimp only at hSw); go_split_ands; assumption)
    case p4_2b => assumption
    case p4_2c => rfl
    case p4_2d => first | assumption | (simp only [*]; done)
    try simp only [Act.put, List.setIfInBounds_toArray, List.set_cons_zero, List.set_cons_succ]
    refine held_step (i := 1) rfl (by kernel_rfl) (by rfl) (fun K hK => ?_)
    go_simp
    refine (rheight_to (.node x1 x2) cx _ (HT.out.2.2.1.below HB.out) xh HEX.out.1 (by have := HM.out; (try simp only [Av.many] at this ⊢); omega)).mono ?_
    rintro e wc ⟨rfl, hb⟩
    have HB := Lib.hid (below_then HB.out HB.out.size hb)
    clear hb
    go_wp2_with fail
    have hHeld := HTS.out _ (off_below HB.out)
    refine hK.out _ _ (HTS.out _ (off_below HB.out)) ?_
    clear hK K
    try simp only [Act.put, List.setIfInBounds_toArray, List.set_cons_zero, List.set_cons_succ]
    refine held_step (i := 3) rfl (by kernel_rfl) (by rfl) (fun K hK => ?_)
    go_simp
    refine (rheight_to (y) cy _ (HT.out.2.2.2.1.below HB.out) yh HEX.out.2 (by have := HM.out; (try simp only [Av.many] at this ⊢); omega)).mono ?_
    rintro e wc ⟨rfl, hb⟩
    have HB := Lib.hid (below_then HB.out HB.out.size hb)
    clear hb
    go_wp2_with fail
    have hHeld := HTS.out _ (off_below HB.out)
    refine hK.out _ _ (HTS.out _ (off_below HB.out)) ?_
    clear hK K
    try simp only [Act.put, List.setIfInBounds_toArray, List.set_cons_zero, List.set_cons_succ]
    refine held_take (i := 4) (v := ?p4_3v) rfl (by kernel_rfl) (by kernel_rfl) (by kernel_rfl) (fun _ _ _ h => h) (by rfl) ?p4_3y hHeld ?_
    case p4_3y => ((intro w _hSw; (try dsimp only at _hSw); go_simp); try (with_reducible rfl))
    try simp only [Act.put, List.setIfInBounds_toArray, List.set_cons_zero, List.set_cons_succ]
    refine wpAnyH_done (by kernel_rfl) ?_ _
    clear hHeld
    go_wp2_with fail
    have HB := Lib.hid (below_then HB.out HB.out.size (refl_drewN _ 1))
    refine wp_region_held_drew (S := (fun w' => w'.rangeAt g6 0 cx ∧ w'.rangeAt g7 0 cy ∧ w'.rangeAt xa 0 ca ∧ w'.cell? ⟨g6, 3, none⟩ = some (.slice (some ⟨g', 0, none⟩) 2 2) ∧ w'.rangeAt g' 0 c1 ∧ w'.rangeAt g' 4 c2)) (by kernel_rfl) ?p5_s0 (fun hHeld => ?_)
    case p5_s0 => exact HTS.out _ (off_below HB.out)
    refine held_row (i := 0) rfl (by kernel_rfl) (by kernel_rfl) (by kernel_rfl) _ _ rfl _ _ rfl ?p5_1C ?p5_1D (fun _ _ _ h => h) (by rfl) ?p5_1a ?p5_1b ?p5_1c ?p5_1d hHeld ?_
    case p5_1a => (intro w hSw; (try dsimp only at hSw); go_split_ands; assumption)
    case p5_1b => assumption
    case p5_1c => rfl
    case p5_1d => first | assumption | (simp only [*]; done)
    try simp only [Act.put, List.setIfInBounds_toArray, List.set_cons_zero, List.set_cons_succ]
    refine held_take (i := 1) (v := ?p5_2v) rfl (by kernel_rfl) (by kernel_rfl) (by kernel_rfl) (fun _ _ _ h => h) (by rfl) ?p5_2y hHeld ?_
    case p5_2y => ((intro w _hSw; (try dsimp only at _hSw); go_simp); try (with_reducible rfl))
    try simp only [Act.put, List.setIfInBounds_toArray, List.set_cons_zero, List.set_cons_succ]
    refine held_take (i := 2) (v := ?p5_3v) rfl (by kernel_rfl) (by kernel_rfl) (by kernel_rfl) (fun _ _ _ h => h) (by rfl) ?p5_3y hHeld ?_
    case p5_3y => ((intro w _hSw; (try dsimp only at _hSw); go_simp); try (with_reducible rfl))
    try simp only [Act.put, List.setIfInBounds_toArray, List.set_cons_zero, List.set_cons_succ]
    refine held_take (i := 3) (v := ?p5_4v) rfl (by kernel_rfl) (by kernel_rfl) (by kernel_rfl) (fun _ _ _ h => h) (by rfl) ?p5_4y hHeld ?_
    case p5_4y => ((intro w _hSw; (try dsimp only at _hSw); go_simp); try (with_reducible rfl))
    try simp only [Act.put, List.setIfInBounds_toArray, List.set_cons_zero, List.set_cons_succ]
    refine held_row (i := 4) rfl (by kernel_rfl) (by kernel_rfl) (by kernel_rfl) _ _ rfl _ _ rfl ?p5_5C ?p5_5D (fun _ _ _ h => h) (by rfl) ?p5_5a ?p5_5b ?p5_5c ?p5_5d hHeld ?_
    case p5_5a => (intro w hSw; (try dsimp only at hSw); go_split_ands; assumption)
    case p5_5b => assumption
    case p5_5c => rfl
    case p5_5d => first | assumption | (simp only [*]; done)
    try simp only [Act.put, List.setIfInBounds_toArray, List.set_cons_zero, List.set_cons_succ]
    refine held_take (i := 6) (v := ?p5_6v) rfl (by kernel_rfl) (by kernel_rfl) (by kernel_rfl) (fun _ _ _ h => h) (by rfl) ?p5_6y hHeld ?_
    case p5_6y => ((intro w _hSw; (try dsimp only at _hSw); go_simp); try (with_reducible rfl))
    try simp only [Act.put, List.setIfInBounds_toArray, List.set_cons_zero, List.set_cons_succ]
    refine held_take (i := 7) (v := ?p5_7v) rfl (by kernel_rfl) (by kernel_rfl) (by kernel_rfl) (fun _ _ _ h => h) (by rfl) ?p5_7y hHeld ?_
    case p5_7y => ((intro w _hSw; (try dsimp only at _hSw); go_simp); try (with_reducible rfl))
    try simp only [Act.put, List.setIfInBounds_toArray, List.set_cons_zero, List.set_cons_succ]
    refine held_take (i := 8) (v := ?p5_8v) rfl (by kernel_rfl) (by kernel_rfl) (by kernel_rfl) (fun _ _ _ h => h) (by rfl) ?p5_8y hHeld ?_
    case p5_8y => ((intro w _hSw; (try dsimp only at _hSw); go_simp); try (with_reducible rfl))
    try simp only [Act.put, List.setIfInBounds_toArray, List.set_cons_zero, List.set_cons_succ]
    refine held_row (i := 9) rfl (by kernel_rfl) (by kernel_rfl) (by kernel_rfl) _ _ rfl _ _ rfl ?p5_9C ?p5_9D (fun _ _ _ h => h) (by rfl) ?p5_9a ?p5_9b ?p5_9c ?p5_9d hHeld ?_
    case p5_9a => (intro w hSw; (try dsimp only at hSw); go_split_ands; assumption)
    case p5_9b => assumption
    case p5_9c => rfl
    case p5_9d => first | assumption | (simp only [*]; done)
    try simp only [Act.put, List.setIfInBounds_toArray, List.set_cons_zero, List.set_cons_succ]
    refine held_row (i := 10) rfl (by kernel_rfl) (by kernel_rfl) (by kernel_rfl) _ _ rfl _ _ rfl ?p5_10C ?p5_10D (fun _ _ _ h => h) (by rfl) ?p5_10a ?p5_10b ?p5_10c ?p5_10d hHeld ?_
    case p5_10a => (intro w hSw; (try dsimp only at hSw); go_split_ands; assumption)
    case p5_10b => assumption
    case p5_10c => rfl
    case p5_10d => first | assumption | (simp only [*]; done)
    try simp only [Act.put, List.setIfInBounds_toArray, List.set_cons_zero, List.set_cons_succ]
    refine held_step (i := 5) rfl (by kernel_rfl) (by rfl) (fun K hK => ?_)
    go_simp
    refine (rtwo_any (a) (x1) ca c1 _ (HT.out.1.below HB.out) (HT.out.2.2.2.2.1.below HB.out)).mono ?_
    rintro e wc ⟨q1, rfl, hn, hb⟩
    have Hq1 := Lib.hid hn
    have HB := Lib.hid (below_then HB.out HB.out.size hb)
    clear hn hb
    go_wp2_with fail
    have hHeld := HTS.out _ (off_below HB.out)
    refine hK.out _ _ (HTS.out _ (off_below HB.out)) ?_
    clear hK K
    try simp only [Act.put, List.setIfInBounds_toArray, List.set_cons_zero, List.set_cons_succ]
    refine held_step (i := 11) rfl (by kernel_rfl) (by rfl) (fun K hK => ?_)
    go_simp
    refine (rtwo_any (x2) (y) c2 cy _ (HT.out.2.2.2.2.2.below HB.out) (HT.out.2.2.2.1.below HB.out)).mono ?_
    rintro e wc ⟨q2, rfl, hn, hb⟩
    have Hq1 := Lib.hid (Hq1.out.below hb)
    have Hq2 := Lib.hid hn
    have HB := Lib.hid (below_then HB.out HB.out.size hb)
    clear hn hb
    go_wp2_with fail
    have hHeld := HTS.out _ (off_below HB.out)
    refine hK.out _ _ (HTS.out _ (off_below HB.out)) ?_
    clear hK K
    try simp only [Act.put, List.setIfInBounds_toArray, List.set_cons_zero, List.set_cons_succ]
    refine held_step (i := 12) rfl (by kernel_rfl) (by rfl) (fun K hK => ?_)
    go_simp
    refine (rtwo_any (.node a x1) (.node x2 y) q1 q2 _ Hq1.out Hq2.out).mono ?_
    rintro e wc ⟨q3, rfl, hn, hb⟩
    have Hq3 := Lib.hid hn
    have HB := Lib.hid (below_then HB.out HB.out.size hb)
    clear hn hb
    go_wp2_with fail
    have hHeld := HTS.out _ (off_below HB.out)
    refine hK.out _ _ (HTS.out _ (off_below HB.out)) ?_
    clear hK K
    try simp only [Act.put, List.setIfInBounds_toArray, List.set_cons_zero, List.set_cons_succ]
    refine held_step (i := 13) rfl (by kernel_rfl) (by rfl) (fun K hK => ?_)
    refine wp_store_blk 26 (.tmp 4) (.tmp 75) rfl (xa + 1 + 1) q3 rfl rfl 26 _ (HX.out.below HB.out) (by rw [Hq3.out.len]; kernel_rfl) (by rw [Hq3.out.len]; rfl) Hq3.out.one ?_
    intro w9 hz hg
    have H9 := Lib.hid (And.intro hz (And.intro ((below_then HW0.out HW0.out.size HB.out).grown hg (below_then HW0.out HW0.out.size HB.out).size (fun q e => by injection e with e; have := HXA.out; omega)) (RC.store (HX.out.below HB.out) hg Hq3.out)))
    have HS9 := Lib.hid (off_store HB.out hg)
    clear hz hg
    have hHeld := HTS.out _ HS9.out
    refine hK.out _ _ (HTS.out _ HS9.out) ?_
    clear hK K
    (try simp only [Act.put]); (try simp only [List.setIfInBounds_toArray]); (try simp only [List.set_cons_succ]); (try simp only [List.set_cons_zero])
    refine wpAnyH_done (by kernel_rfl) ?_ _
    go_wp2
    refine bodyPost_ret (results_blk rfl _ _ (xa + 1 + 1) 26 q3 _ rfl H9.out.1 uT rfl (by rw [Hq3.out.len]; kernel_rfl)) rfl ⟨_, rfl, H9.out.2.2, H9.out.2.1⟩
set_option maxRecDepth 100000 in
set_option maxHeartbeats 4000000 in
theorem rr_bb (a x y : Av) (ca cb : List Value) (w : World) (ha : RC w a ca) (hb : RC w (.node x y) cb) (hm : Av.many a + Av.many (.node x y) ≤ 900000) (hs : Av.height (.node x y) = Av.height a + 2 ∧ ¬ Av.height y < Av.height x) :
    Calls Tryd.prog 87 #[.agg ca.toArray, .agg cb.toArray] w fun e w' => ∃ cs, e = .returned (.agg cs.toArray) ∧ RC w' (.node (.node a x) y) cs ∧ Below w.heap.size w w' := by
  have la := ha.len
  have lb := hb.len
  obtain ⟨g, cx, cy, hcs, hrx, hry, hx, hy⟩ := rnode hb
  have lx := hx.len
  have ly := hy.len
  have hgw := range_lt hrx (by rw [lx]; omega)
  obtain ⟨ah, eah⟩ : ∃ n, Av.height a = n := ⟨_, rfl⟩
  obtain ⟨bh, ebh⟩ : ∃ n, Av.height (.node x y) = n := ⟨_, rfl⟩
  have hma := Av.height_many a
  have hmb := Av.height_many (.node x y)
  rw [eah] at hma hs
  rw [ebh] at hmb hs
  obtain ⟨xh, exh⟩ : ∃ n, Av.height (x) = n := ⟨_, rfl⟩
  obtain ⟨yh, eyh⟩ : ∃ n, Av.height (y) = n := ⟨_, rfl⟩
  rw [exh, eyh] at hs
  have HD := Lib.hid (show IntKind.i64.wrap ((ah : Int) - (bh : Int)) = -2 by rw [IntWalk.i64_in _ ⟨by omega, by omega⟩]; omega)
  have hcmp : ¬ yh < xh := by omega
  have HM := Lib.hid hm
  obtain ⟨w1, hw1⟩ : ∃ w1, w1 = w.alloc (.cells ca.toArray 26) := ⟨_, rfl⟩
  obtain ⟨w2, hw2⟩ : ∃ w2, w2 = w1.alloc (.cells cb.toArray 26) := ⟨_, rfl⟩
  obtain ⟨w3, hw3⟩ : ∃ w3, w3 = w2.alloc (.cells emptyC.toArray 26) := ⟨_, rfl⟩
  obtain ⟨xa, hxa⟩ : ∃ n, n = w.heap.size := ⟨_, rfl⟩
  have s1 : w1.heap.size = xa + 1 := by rw [hw1, World.size_alloc, hxa]
  have s2 : w2.heap.size = xa + 1 + 1 := by rw [hw2, World.size_alloc, s1]
  have s3 : w3.heap.size = xa + 1 + 1 + 1 := by rw [hw3, World.size_alloc, s2]
  have b1 : Below w.heap.size w w1 := by rw [hw1]; exact (Below.refl _ _).alloc (Nat.le_refl _) _
  have b2 : Below w.heap.size w w2 := by rw [hw2]; exact b1.alloc b1.size _
  have b3 : Below w.heap.size w w3 := by rw [hw3]; exact b2.alloc b2.size _
  have z1 : Blk w3 xa 26 ca := by rw [hw3, hw2, hw1, hxa]; exact ((Blk_new w ca 26).alloc _).alloc _
  have z2 : Blk w3 (xa + 1) 26 cb := by rw [← s1, hw3, hw2]; exact (Blk_new w1 cb 26).alloc _
  have z3 : Blk w3 (xa + 1 + 1) 26 emptyC := by rw [← s2, hw3]; exact Blk_new w2 emptyC 26
  have HTS : Hid (∀ w', Off w3 (xa + 1 + 1) w' → w'.rangeAt xa 0 ca ∧ w'.rangeAt (xa + 1) 0 cb ∧ w'.cell? ⟨(xa + 1), 3, none⟩ = some (.slice (some ⟨g, 0, none⟩) 2 2) ∧ w'.rangeAt g 0 cx ∧ w'.rangeAt g 4 cy) := Lib.hid fun w' h => ⟨range_off (blk_range z1) h (by omega), range_off (blk_range z2) h (by omega), cell_off (z2.cellD 3 _ (by rw [hcs]; rfl)) h (by omega), range_off (range_below hrx b3) h (by omega), range_off (range_below hry b3) h (by omega)⟩
  have HT := Lib.hid (And.intro (ha.below b3) (And.intro (hb.below b3) (And.intro (hx.below b3) ((hy.below b3)))))
  have HW0 := Lib.hid b3
  have HX := Lib.hid z3
  have HXA := Lib.hid (And.intro hxa s3)
  have HEH := Lib.hid (And.intro eah ebh)
  have HEX := Lib.hid (And.intro exh eyh)
  have HC := Lib.hid hcs
  clear hcs
  have HG := Lib.hid (And.intro hgw (And.intro hrx hry))
  have HLX := Lib.hid (And.intro lx ly)
  have ica : (Tryd.prog.info? 26).map (·.size) = some ca.length := by rw [la]; kernel_rfl
  have icb : (Tryd.prog.info? 26).map (·.size) = some cb.length := by rw [lb]; kernel_rfl
  have icx : (Tryd.prog.info? 26).map (·.size) = some cx.length := by rw [lx]; kernel_rfl
  have icy : (Tryd.prog.info? 26).map (·.size) = some cy.length := by rw [ly]; kernel_rfl
  have uT := Tryd.underlying26
  go_enter Tryd.func87, Tryd.ntmps87
  go_upto_region 1 with fail
  change Code.wp _ _ _ _ (((w.alloc (.cells ca.toArray 26)).alloc (.cells cb.toArray 26)).alloc (.cells emptyC.toArray 26))
  rw [← hw1, ← hw2, ← hw3, ← hxa]
  have HB : Hid (Below w3.heap.size w3 (w3.drewN 1)) := Lib.hid (refl_drewN w3 1)
  clear hw1 hw2 hw3 s1 s2 s3 b1 b2 b3 z1 z2 z3 la lb hm hma hmb hs eah ebh ha hb hxa hrx hry hx hy lx ly hgw exh eyh
  refine wp_region_held_drew (S := (fun w' => w'.rangeAt xa 0 ca ∧ w'.rangeAt (xa + 1) 0 cb ∧ w'.cell? ⟨(xa + 1), 3, none⟩ = some (.slice (some ⟨g, 0, none⟩) 2 2) ∧ w'.rangeAt g 0 cx ∧ w'.rangeAt g 4 cy)) (by kernel_rfl) ?p1_s0 (fun hHeld => ?_)
  case p1_s0 => exact HTS.out _ (off_below HB.out)
  refine held_row (i := 0) rfl (by kernel_rfl) (by kernel_rfl) (by kernel_rfl) _ _ rfl _ _ rfl ?p1_1C ?p1_1D (fun _ _ _ h => h) (by rfl) ?p1_1a ?p1_1b ?p1_1c ?p1_1d hHeld ?_
  case p1_1a => (intro w hSw; (try dsimp only at hSw); go_split_ands; assumption)
  case p1_1b => assumption
  case p1_1c => rfl
  case p1_1d => first | assumption | (simp only [*]; done)
  try simp only [Act.put, List.setIfInBounds_toArray, List.set_cons_zero, List.set_cons_succ]
  refine held_row (i := 2) rfl (by kernel_rfl) (by kernel_rfl) (by kernel_rfl) _ _ rfl _ _ rfl ?p1_2C ?p1_2D (fun _ _ _ h => h) (by rfl) ?p1_2a ?p1_2b ?p1_2c ?p1_2d hHeld ?_
  case p1_2a => (intro w hSw; (try dsimp only at hSw); go_split_ands; assumption)
  case p1_2b => assumption
  case p1_2c => rfl
  case p1_2d => first | assumption | (simp only [*]; done)
  try simp only [Act.put, List.setIfInBounds_toArray, List.set_cons_zero, List.set_cons_succ]
  refine held_step (i := 1) rfl (by kernel_rfl) (by rfl) (fun K hK => ?_)
  go_simp
  refine (rheight_to (a) ca _ (HT.out.1.below HB.out) ah HEH.out.1 (by have := HM.out; (try simp only [Av.many] at this ⊢); omega)).mono ?_
  rintro e wc ⟨rfl, hb⟩
  have HB := Lib.hid (below_then HB.out HB.out.size hb)
  clear hb
  go_wp2_with fail
  have hHeld := HTS.out _ (off_below HB.out)
  refine hK.out _ _ (HTS.out _ (off_below HB.out)) ?_
  clear hK K
  try simp only [Act.put, List.setIfInBounds_toArray, List.set_cons_zero, List.set_cons_succ]
  refine held_step (i := 3) rfl (by kernel_rfl) (by rfl) (fun K hK => ?_)
  go_simp
  refine (rheight_to ((.node x y)) cb _ (HT.out.2.1.below HB.out) bh HEH.out.2 (by have := HM.out; (try simp only [Av.many] at this ⊢); omega)).mono ?_
  rintro e wc ⟨rfl, hb⟩
  have HB := Lib.hid (below_then HB.out HB.out.size hb)
  clear hb
  go_wp2_with fail
  have hHeld := HTS.out _ (off_below HB.out)
  refine hK.out _ _ (HTS.out _ (off_below HB.out)) ?_
  clear hK K
  try simp only [Act.put, List.setIfInBounds_toArray, List.set_cons_zero, List.set_cons_succ]
  refine held_take (i := 4) (v := (.int .i64 (-2))) rfl (by kernel_rfl) (by kernel_rfl) (by kernel_rfl) (fun _ _ _ h => h) (by rfl) ?p1_3y hHeld ?_
  case p1_3y => (intro w _hSw; (try dsimp only at _hSw); go_simp; try rw [HD.out])
  try simp only [Act.put, List.setIfInBounds_toArray, List.set_cons_zero, List.set_cons_succ]
  refine held_take (i := 5) (v := ?p1_4v) rfl (by kernel_rfl) (by kernel_rfl) (by kernel_rfl) (fun _ _ _ h => h) (by rfl) ?p1_4y hHeld ?_
  case p1_4y => ((intro w _hSw; (try dsimp only at _hSw); go_simp); try (with_reducible rfl))
  try simp only [Act.put, List.setIfInBounds_toArray, List.set_cons_zero, List.set_cons_succ]
  refine wpAnyH_done (by kernel_rfl) ?_ _
  clear hHeld
  go_wp2_with fail
  have HB := Lib.hid (below_then HB.out HB.out.size (refl_drewN _ 1))
  go_cut [8, 9] from 50 (fun v6 v7 wr => ∃ g6 g7 : Nat, v6 = .pointer (some ⟨g6, 0, none⟩) ∧ v7 = .pointer (some ⟨g7, 0, none⟩) ∧ Below w3.heap.size w3 wr ∧ Blk wr g6 26 cx ∧ Blk wr g7 26 cy ∧ w3.heap.size ≤ g6 ∧ w3.heap.size ≤ g7)
  case first =>
    refine wp_region_held_drew (S := (fun w' => w'.rangeAt xa 0 ca ∧ w'.rangeAt (xa + 1) 0 cb ∧ w'.cell? ⟨(xa + 1), 3, none⟩ = some (.slice (some ⟨g, 0, none⟩) 2 2) ∧ w'.rangeAt g 0 cx ∧ w'.rangeAt g 4 cy)) (by kernel_rfl) ?p3_s0 (fun hHeld => ?_)
    case p3_s0 => exact HTS.out _ (off_below HB.out)
    refine held_take (i := 0) (v := ?p3_1v) rfl (by kernel_rfl) (by kernel_rfl) (by kernel_rfl) (fun _ _ _ h => h) (by rfl) ?p3_1y hHeld ?_
    case p3_1y => ((intro w _hSw; (try dsimp only at _hSw); go_simp); try (with_reducible rfl))
    try simp only [Act.put, List.setIfInBounds_toArray, List.set_cons_zero, List.set_cons_succ]
    refine held_take (i := 1) (v := ?p3_2v) rfl (by kernel_rfl) (by kernel_rfl) (by kernel_rfl) (fun _ _ _ h => h) (by rfl) ?p3_2y hHeld ?_
    case p3_2y => ((intro w _hSw; (try dsimp only at _hSw); go_simp); try (with_reducible rfl))
    try simp only [Act.put, List.setIfInBounds_toArray, List.set_cons_zero, List.set_cons_succ]
    refine held_take (i := 2) (v := ?p3_3v) rfl (by kernel_rfl) (by kernel_rfl) (by kernel_rfl) (fun _ _ _ h => h) (by rfl) ?p3_3y hHeld ?_
    case p3_3y => ((intro w _hSw; (try dsimp only at _hSw); go_simp); try (with_reducible rfl))
    try simp only [Act.put, List.setIfInBounds_toArray, List.set_cons_zero, List.set_cons_succ]
    refine held_row (i := 3) rfl (by kernel_rfl) (by kernel_rfl) (by kernel_rfl) _ _ rfl _ _ rfl ?p3_4C ?p3_4D (fun _ _ _ h => h) (by rfl) ?p3_4a ?p3_4b ?p3_4c ?p3_4d hHeld ?_
    case p3_4a => (intro w hSw; (try dsimp only at hSw); go_split_ands; assumption)
    case p3_4b => assumption
    case p3_4c => rfl
    case p3_4d => first | assumption | (simp only [*]; done)
    try simp only [Act.put, List.setIfInBounds_toArray, List.set_cons_zero, List.set_cons_succ]
    refine held_take (i := 4) (v := ?p3_5v) rfl (by kernel_rfl) (by kernel_rfl) (by kernel_rfl) (fun _ _ _ h => h) (by rfl) ?p3_5y hHeld ?_
    case p3_5y => ((intro w _hSw; (try dsimp only at _hSw); go_simp); try (with_reducible rfl))
    try simp only [Act.put, List.setIfInBounds_toArray, List.set_cons_zero, List.set_cons_succ]
    refine held_take (i := 5) (v := ?p3_6v) rfl (by kernel_rfl) (by kernel_rfl) (by kernel_rfl) (fun _ _ _ h => h) (by rfl) ?p3_6y hHeld ?_
    case p3_6y => ((intro w _hSw; (try dsimp only at _hSw); go_simp); try (with_reducible rfl))
    try simp only [Act.put, List.setIfInBounds_toArray, List.set_cons_zero, List.set_cons_succ]
    refine held_take (i := 6) (v := ?p3_7v) rfl (by kernel_rfl) (by kernel_rfl) (by kernel_rfl) (fun _ _ _ h => h) (by rfl) ?p3_7y hHeld ?_
    case p3_7y => ((intro w _hSw; (try dsimp only at _hSw); go_simp); try (with_reducible rfl))
    try simp only [Act.put, List.setIfInBounds_toArray, List.set_cons_zero, List.set_cons_succ]
    refine held_row (i := 7) rfl (by kernel_rfl) (by kernel_rfl) (by kernel_rfl) _ _ rfl _ _ rfl ?p3_8C ?p3_8D (fun _ _ _ h => h) (by rfl) ?p3_8a ?p3_8b ?p3_8c ?p3_8d hHeld ?_
    case p3_8a => (intro w hSw; (try dsimp only at hSw); go_split_ands; assumption)
    case p3_8b => assumption
    case p3_8c => rfl
    case p3_8d => first | assumption | (simp only [*]; done)
    try simp only [Act.put, List.setIfInBounds_toArray, List.set_cons_zero, List.set_cons_succ]
    refine held_two (i := 8) (j := 9) rfl rfl (by kernel_rfl) (by rfl) (by rfl) (fun K hK => ?_) (fun K hK => ?_)
    · skip
      go_simp
      try have HNE := Lib.hid (blk_lt2 HL7.out)
      try have HL7 := Lib.hid (HL7.out.alloc (.cells emptyC.toArray 26))
      first | have HL6 := Lib.hid (blk_new_at2 HB.out emptyC 26) | have HL6 := Lib.hid (blk_new_at HB.out emptyC 26)
      first | have HGL6 := Lib.hid (size_at2 HB.out) | have HGL6 := Lib.hid HB.out.size
      have HB := Lib.hid (HB.out.alloc HB.out.size (.cells emptyC.toArray 26))
      have hHeld := HTS.out _ (off_below HB.out)
      refine hK.out _ _ (HTS.out _ (off_below HB.out)) ?_
      clear hK K
      (try simp only [Act.put]); (try simp only [List.setIfInBounds_toArray]); (try simp only [List.set_cons_succ]); (try simp only [List.set_cons_zero])
      refine held_step (i := 9) rfl (by kernel_rfl) (by rfl) (fun K hK => ?_)
      go_simp
      try have HNE := Lib.hid (blk_lt2 HL6.out)
      try have HL6 := Lib.hid (HL6.out.alloc (.cells emptyC.toArray 26))
      first | have HL7 := Lib.hid (blk_new_at2 HB.out emptyC 26) | have HL7 := Lib.hid (blk_new_at HB.out emptyC 26)
      first | have HGL7 := Lib.hid (size_at2 HB.out) | have HGL7 := Lib.hid HB.out.size
      have HB := Lib.hid (HB.out.alloc HB.out.size (.cells emptyC.toArray 26))
      have hHeld := HTS.out _ (off_below HB.out)
      refine hK.out _ _ (HTS.out _ (off_below HB.out)) ?_
      clear hK K
      (try simp only [Act.put]); (try simp only [List.setIfInBounds_toArray]); (try simp only [List.set_cons_succ]); (try simp only [List.set_cons_zero])
      refine held_step (i := 10) rfl (by kernel_rfl) (by rfl) (fun K hK => ?_)
      refine wp_store_blk 26 (.tmp 8) (.tmp 53) rfl _ cx rfl rfl 26 _ HL6.out (by rw [HT.out.2.2.1.len]; kernel_rfl) (by rw [HT.out.2.2.1.len]; rfl) HT.out.2.2.1.one ?_
      intro wc hz hg
      have HL7 := Lib.hid (HL7.out.grown hg (by first | exact fun e => Nat.ne_of_lt HNE.out (Option.some.inj e) | exact fun e => Nat.ne_of_gt HNE.out (Option.some.inj e)))
      have HL6 := Lib.hid hz
      have HB := Lib.hid (HB.out.grown hg HB.out.size (fun q e => (Option.some.inj e) ▸ HGL6.out))
      clear hz hg
      have hHeld := HTS.out _ (off_below HB.out)
      refine hK.out _ _ (HTS.out _ (off_below HB.out)) ?_
      clear hK K
      (try simp only [Act.put]); (try simp only [List.setIfInBounds_toArray]); (try simp only [List.set_cons_succ]); (try simp only [List.set_cons_zero])
      refine held_step (i := 11) rfl (by kernel_rfl) (by rfl) (fun K hK => ?_)
      refine wp_store_blk 26 (.tmp 9) (.tmp 57) rfl _ cy rfl rfl 26 _ HL7.out (by rw [HT.out.2.2.2.len]; kernel_rfl) (by rw [HT.out.2.2.2.len]; rfl) HT.out.2.2.2.one ?_
      intro wc hz hg
      have HL6 := Lib.hid (HL6.out.grown hg (by first | exact fun e => Nat.ne_of_lt HNE.out (Option.some.inj e) | exact fun e => Nat.ne_of_gt HNE.out (Option.some.inj e)))
      have HL7 := Lib.hid hz
      have HB := Lib.hid (HB.out.grown hg HB.out.size (fun q e => (Option.some.inj e) ▸ HGL7.out))
      clear hz hg
      have hHeld := HTS.out _ (off_below HB.out)
      refine hK.out _ _ (HTS.out _ (off_below HB.out)) ?_
      clear hK K
      (try simp only [Act.put]); (try simp only [List.setIfInBounds_toArray]); (try simp only [List.set_cons_succ]); (try simp only [List.set_cons_zero])
      refine wpAnyH_done (by kernel_rfl) ?_ _
      go_wp2
      go_meet
      case rel => exact ⟨_, _, rfl, rfl, HB.out, HL6.out, HL7.out, HGL6.out, HGL7.out⟩
    · skip
      go_simp
      try have HNE := Lib.hid (blk_lt2 HL6.out)
      try have HL6 := Lib.hid (HL6.out.alloc (.cells emptyC.toArray 26))
      first | have HL7 := Lib.hid (blk_new_at2 HB.out emptyC 26) | have HL7 := Lib.hid (blk_new_at HB.out emptyC 26)
      first | have HGL7 := Lib.hid (size_at2 HB.out) | have HGL7 := Lib.hid HB.out.size
      have HB := Lib.hid (HB.out.alloc HB.out.size (.cells emptyC.toArray 26))
      have hHeld := HTS.out _ (off_below HB.out)
      refine hK.out _ _ (HTS.out _ (off_below HB.out)) ?_
      clear hK K
      (try simp only [Act.put]); (try simp only [List.setIfInBounds_toArray]); (try simp only [List.set_cons_succ]); (try simp only [List.set_cons_zero])
      refine held_step (i := 8) rfl (by kernel_rfl) (by rfl) (fun K hK => ?_)
      go_simp
      try have HNE := Lib.hid (blk_lt2 HL7.out)
      try have HL7 := Lib.hid (HL7.out.alloc (.cells emptyC.toArray 26))
      first | have HL6 := Lib.hid (blk_new_at2 HB.out emptyC 26) | have HL6 := Lib.hid (blk_new_at HB.out emptyC 26)
      first | have HGL6 := Lib.hid (size_at2 HB.out) | have HGL6 := Lib.hid HB.out.size
      have HB := Lib.hid (HB.out.alloc HB.out.size (.cells emptyC.toArray 26))
      have hHeld := HTS.out _ (off_below HB.out)
      refine hK.out _ _ (HTS.out _ (off_below HB.out)) ?_
      clear hK K
      (try simp only [Act.put]); (try simp only [List.setIfInBounds_toArray]); (try simp only [List.set_cons_succ]); (try simp only [List.set_cons_zero])
      refine held_step (i := 10) rfl (by kernel_rfl) (by rfl) (fun K hK => ?_)
      refine wp_store_blk 26 (.tmp 8) (.tmp 53) rfl _ cx rfl rfl 26 _ HL6.out (by rw [HT.out.2.2.1.len]; kernel_rfl) (by rw [HT.out.2.2.1.len]; rfl) HT.out.2.2.1.one ?_
      intro wc hz hg
      have HL7 := Lib.hid (HL7.out.grown hg (by first | exact fun e => Nat.ne_of_lt HNE.out (Option.some.inj e) | exact fun e => Nat.ne_of_gt HNE.out (Option.some.inj e)))
      have HL6 := Lib.hid hz
      have HB := Lib.hid (HB.out.grown hg HB.out.size (fun q e => (Option.some.inj e) ▸ HGL6.out))
      clear hz hg
      have hHeld := HTS.out _ (off_below HB.out)
      refine hK.out _ _ (HTS.out _ (off_below HB.out)) ?_
      clear hK K
      (try simp only [Act.put]); (try simp only [List.setIfInBounds_toArray]); (try simp only [List.set_cons_succ]); (try simp only [List.set_cons_zero])
      refine held_step (i := 11) rfl (by kernel_rfl) (by rfl) (fun K hK => ?_)
      refine wp_store_blk 26 (.tmp 9) (.tmp 57) rfl _ cy rfl rfl 26 _ HL7.out (by rw [HT.out.2.2.2.len]; kernel_rfl) (by rw [HT.out.2.2.2.len]; rfl) HT.out.2.2.2.one ?_
      intro wc hz hg
      have HL6 := Lib.hid (HL6.out.grown hg (by first | exact fun e => Nat.ne_of_lt HNE.out (Option.some.inj e) | exact fun e => Nat.ne_of_gt HNE.out (Option.some.inj e)))
      have HL7 := Lib.hid hz
      have HB := Lib.hid (HB.out.grown hg HB.out.size (fun q e => (Option.some.inj e) ▸ HGL7.out))
      clear hz hg
      have hHeld := HTS.out _ (off_below HB.out)
      refine hK.out _ _ (HTS.out _ (off_below HB.out)) ?_
      clear hK K
      (try simp only [Act.put]); (try simp only [List.setIfInBounds_toArray]); (try simp only [List.set_cons_succ]); (try simp only [List.set_cons_zero])
      refine wpAnyH_done (by kernel_rfl) ?_ _
      go_wp2
      go_meet
      case rel => exact ⟨_, _, rfl, rfl, HB.out, HL6.out, HL7.out, HGL6.out, HGL7.out⟩
  case rest =>
    obtain ⟨g6, g7, rfl, rfl, hb, h6, h7, l6, l7⟩ := hcut
    rw [HXA.out.2] at l6 l7
    have hxw := HXA.out.1
    have HTS : Hid (∀ w', Off wc (xa + 1 + 1) w' → w'.rangeAt g6 0 cx ∧ w'.rangeAt g7 0 cy ∧ w'.rangeAt xa 0 ca) := Lib.hid fun w' h => ⟨range_off (blk_range h6) h (by omega), range_off (blk_range h7) h (by omega), range_off (range_below (HTS.out w3 (off_below (Below.refl _ _))).1 hb) h (by omega)⟩
    have HX := Lib.hid (HX.out.below hb)
    have HT := Lib.hid (And.intro (HT.out.1.below hb) (And.intro (HT.out.2.1.below hb) (And.intro (HT.out.2.2.1.below hb) ((HT.out.2.2.2.below hb)))))
    have HW0 := Lib.hid (below_then HW0.out HW0.out.size hb)
    have HB : Hid (Below wc.heap.size wc (wc.drewN 1)) := Lib.hid (refl_drewN wc 1)
    clear h6 h7 hb l6 l7 hxw
    go_wp2_with fail
    refine wp_region_held_drew (S := (fun w' => w'.rangeAt g6 0 cx ∧ w'.rangeAt g7 0 cy ∧ w'.rangeAt xa 0 ca)) (by kernel_rfl) ?p4_s0 (fun hHeld => ?_)
    case p4_s0 => exact HTS.out _ (off_below HB.out)
    refine held_row (i := 0) rfl (by kernel_rfl) (by kernel_rfl) (by kernel_rfl) _ _ rfl _ _ rfl ?p4_1C ?p4_1D (fun _ _ _ h => h) (by rfl) ?p4_1a ?p4_1b ?p4_1c ?p4_1d hHeld ?_
    case p4_1a => (intro w hSw; (try dsimp only at hSw); go_split_ands; assumption)
    case p4_1b => assumption
    case p4_1c => rfl
    case p4_1d => first | assumption | (simp only [*]; done)
    try simp only [Act.put, List.setIfInBounds_toArray, List.set_cons_zero, List.set_cons_succ]
    refine held_row (i := 2) rfl (by kernel_rfl) (by kernel_rfl) (by kernel_rfl) _ _ rfl _ _ rfl ?p4_2C ?p4_2D (fun _ _ _ h => h) (by rfl) ?p4_2a ?p4_2b ?p4_2c ?p4_2d hHeld ?_
    case p4_2a => (intro w hSw; (try dsimp only at hSw); go_split_ands; assumption)
    case p4_2b => assumption
    case p4_2c => rfl
    case p4_2d => first | assumption | (simp only [*]; done)
    try simp only [Act.put, List.setIfInBounds_toArray, List.set_cons_zero, List.set_cons_succ]
    refine held_step (i := 1) rfl (by kernel_rfl) (by rfl) (fun K hK => ?_)
    go_simp
    refine (rheight_to (x) cx _ (HT.out.2.2.1.below HB.out) xh HEX.out.1 (by have := HM.out; (try simp only [Av.many] at this ⊢); omega)).mono ?_
    rintro e wc ⟨rfl, hb⟩
    have HB := Lib.hid (below_then HB.out HB.out.size hb)
    clear hb
    go_wp2_with fail
    have hHeld := HTS.out _ (off_below HB.out)
    refine hK.out _ _ (HTS.out _ (off_below HB.out)) ?_
    clear hK K
    try simp only [Act.put, List.setIfInBounds_toArray, List.set_cons_zero, List.set_cons_succ]
    refine held_step (i := 3) rfl (by kernel_rfl) (by rfl) (fun K hK => ?_)
    go_simp
    refine (rheight_to (y) cy _ (HT.out.2.2.2.below HB.out) yh HEX.out.2 (by have := HM.out; (try simp only [Av.many] at this ⊢); omega)).mono ?_
    rintro e wc ⟨rfl, hb⟩
    have HB := Lib.hid (below_then HB.out HB.out.size hb)
    clear hb
    go_wp2_with fail
    have hHeld := HTS.out _ (off_below HB.out)
    refine hK.out _ _ (HTS.out _ (off_below HB.out)) ?_
    clear hK K
    try simp only [Act.put, List.setIfInBounds_toArray, List.set_cons_zero, List.set_cons_succ]
    refine held_take (i := 4) (v := ?p4_3v) rfl (by kernel_rfl) (by kernel_rfl) (by kernel_rfl) (fun _ _ _ h => h) (by rfl) ?p4_3y hHeld ?_
    case p4_3y => ((intro w _hSw; (try dsimp only at _hSw); go_simp); try (with_reducible rfl))
    try simp only [Act.put, List.setIfInBounds_toArray, List.set_cons_zero, List.set_cons_succ]
    refine wpAnyH_done (by kernel_rfl) ?_ _
    clear hHeld
    go_wp2_with fail
    have HB := Lib.hid (below_then HB.out HB.out.size (refl_drewN _ 1))
    refine wp_region_held_drew (S := (fun w' => w'.rangeAt g6 0 cx ∧ w'.rangeAt g7 0 cy ∧ w'.rangeAt xa 0 ca)) (by kernel_rfl) ?p5_s0 (fun hHeld => ?_)
    case p5_s0 => exact HTS.out _ (off_below HB.out)
    refine held_row (i := 0) rfl (by kernel_rfl) (by kernel_rfl) (by kernel_rfl) _ _ rfl _ _ rfl ?p5_1C ?p5_1D (fun _ _ _ h => h) (by rfl) ?p5_1a ?p5_1b ?p5_1c ?p5_1d hHeld ?_
    case p5_1a => (intro w hSw; (try dsimp only at hSw); go_split_ands; assumption)
    case p5_1b => assumption
    case p5_1c => rfl
    case p5_1d => first | assumption | (simp only [*]; done)
    try simp only [Act.put, List.setIfInBounds_toArray, List.set_cons_zero, List.set_cons_succ]
    refine held_row (i := 1) rfl (by kernel_rfl) (by kernel_rfl) (by kernel_rfl) _ _ rfl _ _ rfl ?p5_2C ?p5_2D (fun _ _ _ h => h) (by rfl) ?p5_2a ?p5_2b ?p5_2c ?p5_2d hHeld ?_
    case p5_2a => (intro w hSw; (try dsimp only at hSw); go_split_ands; assumption)
    case p5_2b => assumption
    case p5_2c => rfl
    case p5_2d => first | assumption | (simp only [*]; done)
    try simp only [Act.put, List.setIfInBounds_toArray, List.set_cons_zero, List.set_cons_succ]
    refine held_row (i := 3) rfl (by kernel_rfl) (by kernel_rfl) (by kernel_rfl) _ _ rfl _ _ rfl ?p5_3C ?p5_3D (fun _ _ _ h => h) (by rfl) ?p5_3a ?p5_3b ?p5_3c ?p5_3d hHeld ?_
    case p5_3a => (intro w hSw; (try dsimp only at hSw); go_split_ands; assumption)
    case p5_3b => assumption
    case p5_3c => rfl
    case p5_3d => first | assumption | (simp only [*]; done)
    try simp only [Act.put, List.setIfInBounds_toArray, List.set_cons_zero, List.set_cons_succ]
    refine held_step (i := 2) rfl (by kernel_rfl) (by rfl) (fun K hK => ?_)
    go_simp
    refine (rtwo_any (a) (x) ca cx _ (HT.out.1.below HB.out) (HT.out.2.2.1.below HB.out)).mono ?_
    rintro e wc ⟨q1, rfl, hn, hb⟩
    have Hq1 := Lib.hid hn
    have HB := Lib.hid (below_then HB.out HB.out.size hb)
    clear hn hb
    go_wp2_with fail
    have hHeld := HTS.out _ (off_below HB.out)
    refine hK.out _ _ (HTS.out _ (off_below HB.out)) ?_
    clear hK K
    try simp only [Act.put, List.setIfInBounds_toArray, List.set_cons_zero, List.set_cons_succ]
    refine held_step (i := 4) rfl (by kernel_rfl) (by rfl) (fun K hK => ?_)
    go_simp
    refine (rtwo_any (.node a x) (y) q1 cy _ Hq1.out (HT.out.2.2.2.below HB.out)).mono ?_
    rintro e wc ⟨q3, rfl, hn, hb⟩
    have Hq3 := Lib.hid hn
    have HB := Lib.hid (below_then HB.out HB.out.size hb)
    clear hn hb
    go_wp2_with fail
    have hHeld := HTS.out _ (off_below HB.out)
    refine hK.out _ _ (HTS.out _ (off_below HB.out)) ?_
    clear hK K
    try simp only [Act.put, List.setIfInBounds_toArray, List.set_cons_zero, List.set_cons_succ]
    refine held_step (i := 5) rfl (by kernel_rfl) (by rfl) (fun K hK => ?_)
    refine wp_store_blk 26 (.tmp 4) (.tmp 80) rfl (xa + 1 + 1) q3 rfl rfl 26 _ (HX.out.below HB.out) (by rw [Hq3.out.len]; kernel_rfl) (by rw [Hq3.out.len]; rfl) Hq3.out.one ?_
    intro w9 hz hg
    have H9 := Lib.hid (And.intro hz (And.intro ((below_then HW0.out HW0.out.size HB.out).grown hg (below_then HW0.out HW0.out.size HB.out).size (fun q e => by injection e with e; have := HXA.out; omega)) (RC.store (HX.out.below HB.out) hg Hq3.out)))
    have HS9 := Lib.hid (off_store HB.out hg)
    clear hz hg
    have hHeld := HTS.out _ HS9.out
    refine hK.out _ _ (HTS.out _ HS9.out) ?_
    clear hK K
    (try simp only [Act.put]); (try simp only [List.setIfInBounds_toArray]); (try simp only [List.set_cons_succ]); (try simp only [List.set_cons_zero])
    refine wpAnyH_done (by kernel_rfl) ?_ _
    go_wp2
    refine bodyPost_ret (results_blk rfl _ _ (xa + 1 + 1) 26 q3 _ rfl H9.out.1 uT rfl (by rw [Hq3.out.len]; kernel_rfl)) rfl ⟨_, rfl, H9.out.2.2, H9.out.2.1⟩
set_option maxRecDepth 100000 in
set_option maxHeartbeats 4000000 in
theorem rr_cc (a b : Av) (ca cb : List Value) (w : World) (ha : RC w a ca) (hb : RC w b cb) (hm : Av.many a + Av.many b ≤ 900000) (hs : Av.height a ≤ Av.height b + 1 ∧ Av.height b ≤ Av.height a + 1) :
    Calls Tryd.prog 87 #[.agg ca.toArray, .agg cb.toArray] w fun e w' => ∃ cs, e = .returned (.agg cs.toArray) ∧ RC w' (.node a b) cs ∧ Below w.heap.size w w' := by
  have la := ha.len
  have lb := hb.len
  obtain ⟨ah, eah⟩ : ∃ n, Av.height a = n := ⟨_, rfl⟩
  obtain ⟨bh, ebh⟩ : ∃ n, Av.height b = n := ⟨_, rfl⟩
  have hma := Av.height_many a
  have hmb := Av.height_many b
  rw [eah] at hma hs
  rw [ebh] at hmb hs
  obtain ⟨d, hd⟩ : ∃ d : Int, d = (ah : Int) - (bh : Int) := ⟨_, rfl⟩
  have HD := Lib.hid (show IntKind.i64.wrap ((ah : Int) - (bh : Int)) = d by rw [IntWalk.i64_in _ ⟨by omega, by omega⟩, hd])
  have hd2 : (d == 2) = false := by simp; omega
  have hd3 : (d == -2) = false := by simp; omega
  have HM := Lib.hid hm
  obtain ⟨w1, hw1⟩ : ∃ w1, w1 = w.alloc (.cells ca.toArray 26) := ⟨_, rfl⟩
  obtain ⟨w2, hw2⟩ : ∃ w2, w2 = w1.alloc (.cells cb.toArray 26) := ⟨_, rfl⟩
  obtain ⟨w3, hw3⟩ : ∃ w3, w3 = w2.alloc (.cells emptyC.toArray 26) := ⟨_, rfl⟩
  obtain ⟨xa, hxa⟩ : ∃ n, n = w.heap.size := ⟨_, rfl⟩
  have s1 : w1.heap.size = xa + 1 := by rw [hw1, World.size_alloc, hxa]
  have s2 : w2.heap.size = xa + 1 + 1 := by rw [hw2, World.size_alloc, s1]
  have s3 : w3.heap.size = xa + 1 + 1 + 1 := by rw [hw3, World.size_alloc, s2]
  have b1 : Below w.heap.size w w1 := by rw [hw1]; exact (Below.refl _ _).alloc (Nat.le_refl _) _
  have b2 : Below w.heap.size w w2 := by rw [hw2]; exact b1.alloc b1.size _
  have b3 : Below w.heap.size w w3 := by rw [hw3]; exact b2.alloc b2.size _
  have z1 : Blk w3 xa 26 ca := by rw [hw3, hw2, hw1, hxa]; exact ((Blk_new w ca 26).alloc _).alloc _
  have z2 : Blk w3 (xa + 1) 26 cb := by rw [← s1, hw3, hw2]; exact (Blk_new w1 cb 26).alloc _
  have z3 : Blk w3 (xa + 1 + 1) 26 emptyC := by rw [← s2, hw3]; exact Blk_new w2 emptyC 26
  have HTS : Hid (∀ w', Off w3 (xa + 1 + 1) w' → w'.rangeAt xa 0 ca ∧ w'.rangeAt (xa + 1) 0 cb) := Lib.hid fun w' h => ⟨range_off (blk_range z1) h (by omega), range_off (blk_range z2) h (by omega)⟩
  have HT := Lib.hid (And.intro (ha.below b3) ((hb.below b3)))
  have HW0 := Lib.hid b3
  have LA := Lib.hid (And.intro la lb)
  have HX := Lib.hid z3
  have HXA := Lib.hid (And.intro hxa s3)
  have HEH := Lib.hid (And.intro eah ebh)
  have ica : (Tryd.prog.info? 26).map (·.size) = some ca.length := by rw [la]; kernel_rfl
  have icb : (Tryd.prog.info? 26).map (·.size) = some cb.length := by rw [lb]; kernel_rfl
  have uT := Tryd.underlying26
  go_enter Tryd.func87, Tryd.ntmps87
  go_upto_region 1 with fail
  change Code.wp _ _ _ _ (((w.alloc (.cells ca.toArray 26)).alloc (.cells cb.toArray 26)).alloc (.cells emptyC.toArray 26))
  rw [← hw1, ← hw2, ← hw3, ← hxa]
  have HB : Hid (Below w3.heap.size w3 (w3.drewN 1)) := Lib.hid (refl_drewN w3 1)
  clear hw1 hw2 hw3 s1 s2 s3 b1 b2 b3 z1 z2 z3 la lb hm hma hmb hs eah ebh ha hb hxa hd
  refine wp_region_held_drew (S := (fun w' => w'.rangeAt xa 0 ca ∧ w'.rangeAt (xa + 1) 0 cb)) (by kernel_rfl) ?p1_s0 (fun hHeld => ?_)
  case p1_s0 => exact HTS.out _ (off_below HB.out)
  refine held_row (i := 0) rfl (by kernel_rfl) (by kernel_rfl) (by kernel_rfl) _ _ rfl _ _ rfl ?p1_1C ?p1_1D (fun _ _ _ h => h) (by rfl) ?p1_1a ?p1_1b ?p1_1c ?p1_1d hHeld ?_
  case p1_1a => (intro w hSw; (try dsimp only at hSw); go_split_ands; assumption)
  case p1_1b => assumption
  case p1_1c => rfl
  case p1_1d => first | assumption | (simp only [*]; done)
  try simp only [Act.put, List.setIfInBounds_toArray, List.set_cons_zero, List.set_cons_succ]
  refine held_row (i := 2) rfl (by kernel_rfl) (by kernel_rfl) (by kernel_rfl) _ _ rfl _ _ rfl ?p1_2C ?p1_2D (fun _ _ _ h => h) (by rfl) ?p1_2a ?p1_2b ?p1_2c ?p1_2d hHeld ?_
  case p1_2a => (intro w hSw; (try dsimp only at hSw); go_split_ands; assumption)
  case p1_2b => assumption
  case p1_2c => rfl
  case p1_2d => first | assumption | (simp only [*]; done)
  try simp only [Act.put, List.setIfInBounds_toArray, List.set_cons_zero, List.set_cons_succ]
  refine held_step (i := 1) rfl (by kernel_rfl) (by rfl) (fun K hK => ?_)
  go_simp
  refine (rheight_to (a) ca _ (HT.out.1.below HB.out) ah HEH.out.1 (by have := HM.out; (try simp only [Av.many] at this ⊢); omega)).mono ?_
  rintro e wc ⟨rfl, hb⟩
  have HB := Lib.hid (below_then HB.out HB.out.size hb)
  clear hb
  go_wp2_with fail
  have hHeld := HTS.out _ (off_below HB.out)
  refine hK.out _ _ (HTS.out _ (off_below HB.out)) ?_
  clear hK K
  try simp only [Act.put, List.setIfInBounds_toArray, List.set_cons_zero, List.set_cons_succ]
  refine held_step (i := 3) rfl (by kernel_rfl) (by rfl) (fun K hK => ?_)
  go_simp
  refine (rheight_to (b) cb _ (HT.out.2.below HB.out) bh HEH.out.2 (by have := HM.out; (try simp only [Av.many] at this ⊢); omega)).mono ?_
  rintro e wc ⟨rfl, hb⟩
  have HB := Lib.hid (below_then HB.out HB.out.size hb)
  clear hb
  go_wp2_with fail
  have hHeld := HTS.out _ (off_below HB.out)
  refine hK.out _ _ (HTS.out _ (off_below HB.out)) ?_
  clear hK K
  try simp only [Act.put, List.setIfInBounds_toArray, List.set_cons_zero, List.set_cons_succ]
  refine held_take (i := 4) (v := (.int .i64 (d))) rfl (by kernel_rfl) (by kernel_rfl) (by kernel_rfl) (fun _ _ _ h => h) (by rfl) ?p1_3y hHeld ?_
  case p1_3y => (intro w _hSw; (try dsimp only at _hSw); go_simp; try rw [HD.out])
  try simp only [Act.put, List.setIfInBounds_toArray, List.set_cons_zero, List.set_cons_succ]
  refine held_take (i := 5) (v := ?p1_4v) rfl (by kernel_rfl) (by kernel_rfl) (by kernel_rfl) (fun _ _ _ h => h) (by rfl) ?p1_4y hHeld ?_
  case p1_4y => ((intro w _hSw; (try dsimp only at _hSw); go_simp); try (with_reducible rfl))
  try simp only [Act.put, List.setIfInBounds_toArray, List.set_cons_zero, List.set_cons_succ]
  refine wpAnyH_done (by kernel_rfl) ?_ _
  clear hHeld
  have hz1 := run_load_agg (P := Tryd.prog) Tryd.underlying26 rfl (by kernel_rfl) wc ⟨xa, 0, none⟩ ca LA.out.1 (fun j u hj => by rw [add_plain]; exact (HTS.out _ (off_below HB.out)).1 j u hj)
  have hz2 := run_load_agg (P := Tryd.prog) Tryd.underlying26 rfl (by kernel_rfl) wc ⟨xa + 1, 0, none⟩ cb LA.out.2 (fun j u hj => by rw [add_plain]; exact (HTS.out _ (off_below HB.out)).2 j u hj)
  have HZ := Lib.hid (And.intro hz1 hz2)
  clear hz1 hz2
  go_wp2_with (first
    | (refine wpList_load rfl (.tmp 2) rfl ⟨xa, 0, none⟩ (.agg ca.toArray) rfl HZ.out.1 ?_)
    | (refine wpList_load rfl (.tmp 3) rfl ⟨xa + 1, 0, none⟩ (.agg cb.toArray) rfl HZ.out.2 ?_))
  refine (rtwo_any a b ca cb _ (HT.out.1.below HB.out) (HT.out.2.below HB.out)).mono ?_
  rintro e wd ⟨cf, rfl, hn, hb⟩
  have HF := Lib.hid hn
  have HB := Lib.hid (below_then HB.out HB.out.size hb)
  clear hn hb
  go_wp2_with (refine wpList_store_blk rfl 26 (.tmp 4) _ rfl (xa + 1 + 1) cf rfl rfl 26 _ (HX.out.below HB.out) (by rw [HF.out.len]; kernel_rfl) (by rw [HF.out.len]; rfl) HF.out.one ?_; intro w9 hz hg)
  refine bodyPost_ret (results_blk rfl _ _ (xa + 1 + 1) 26 cf _ rfl hz uT rfl (by rw [HF.out.len]; kernel_rfl)) rfl ⟨_, rfl, RC.store (HX.out.below HB.out) hg HF.out, ?_⟩
  exact (below_then HW0.out HW0.out.size HB.out).grown hg (below_then HW0.out HW0.out.size HB.out).size (fun q e => by injection e with e; have := HXA.out; omega)
theorem rright_any (a b : Av) (ca cb : List Value) (w : World) (ha : RC w a ca) (hb : RC w b cb) (hm : a.many + b.many ≤ 900000) (h1 : a.height ≤ b.height + 2) (h2 : b.height ≤ a.height + 2) :
    Calls Tryd.prog 87 #[.agg ca.toArray, .agg cb.toArray] w fun e w' => ∃ cs, e = .returned (.agg cs.toArray) ∧ RC w' (Av.right a b) cs ∧ Below w.heap.size w w' := by
  by_cases c1 : b.height + 1 < a.height
  · cases a with
    | leaf k v => have := b.height_pos; simp only [Av.height] at c1; omega
    | node x y =>
      have e : Av.height (.node x y) = b.height + 2 := by omega
      by_cases c2 : x.height < y.height
      · cases y with
        | leaf k v => have := x.height_pos; simp only [Av.height] at c2; omega
        | node y1 y2 => rw [Av.right_aa x y1 y2 b c1 c2]; exact rr_aa x y1 y2 b ca cb w ha hb hm ⟨e, c2⟩
      · rw [Av.right_ab x y b c1 c2]; exact rr_ab x y b ca cb w ha hb hm ⟨e, c2⟩
  · by_cases c3 : a.height + 1 < b.height
    · cases b with
      | leaf k v => have := a.height_pos; simp only [Av.height] at c3; omega
      | node x y =>
        have e : Av.height (.node x y) = a.height + 2 := by omega
        by_cases c2 : y.height < x.height
        · cases x with
          | leaf k v => have := y.height_pos; simp only [Av.height] at c2; omega
          | node x1 x2 => rw [Av.right_ba a x1 x2 y c1 c3 c2]; exact rr_ba a x1 x2 y ca cb w ha hb hm ⟨e, c2⟩
        · rw [Av.right_bb a x y c1 c3 c2]; exact rr_bb a x y ca cb w ha hb hm ⟨e, c2⟩
    · rw [Av.right_cc a b c1 c3]; exact rr_cc a b ca cb w ha hb hm ⟨by omega, by omega⟩
end Go.Proofs.YtdekealpachhmaaDoor
