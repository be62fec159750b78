/- Layer 7: Range by its contract. -/
import Derived.Test.YtdekealpachhmaaDoorRng
import Derived.Test.YtdekealpachhmaaDoorRvT
namespace Go.Proofs.YtdekealpachhmaaDoor
open Go Go.RowKit Go.Isth Go.Shelf
attribute [local go_sem] Oper.semAt_some

theorem treeO_ptr {w : World} {t : Option Av} {v : Value} (h : TreeO w t v) : ∃ p, v = .pointer p := by
  cases t with
  | none => exact ⟨none, h⟩
  | some t => obtain ⟨g, rfl, _⟩ := h; exact ⟨_, rfl⟩
/-- What stands in Range behind some pairs. -/
structure RngI (w : World) (til : Str) (xl xt base : Nat) (pre : List (Str × Str)) (W : World) : Prop where
  row : ∃ v, Boxed W xl 22 v ∧ W.ownsRow base 38 2 v pre.length (pairsC pre)
  tilb : Boxed W xt 9 (S8 til)
  all : ∀ x ∈ pre, Isth.below til x = true
  bl : Below w.heap.size w W
  sz : base ≤ W.heap.size
theorem RngI.grown {w : World} {til : Str} {xl xt base b : Nat} {pre : List (Str × Str)} {X Y : World} (h : RngI w til xl xt base pre X) (hg : X.grownBy Y (some b)) (h1 : b ≠ xl) (h2 : b ≠ xt) (h3 : w.heap.size ≤ b) (h4 : b < base ∨ ∃ o : Obj, X.heap[b]? = some o ∧ o.isCells = false) : RngI w til xl xt base pre Y := by
  obtain ⟨v, hv, hr⟩ := h.row
  refine ⟨⟨v, hv.kept hg (fun e => h1 (by injection e with e; exact e.symm)), hr.kept hg (.inr fun e => ?_)⟩, h.tilb.kept hg (fun e => h2 (by injection e with e; exact e.symm)), h.all, h.bl.grown hg h.bl.size (fun k e => by injection e with e; omega), Nat.le_trans h.sz hg.size⟩
  rcases h4 with h4 | ⟨o, ho, hc⟩
  · have := (hr.lt b e).1; omega
  · rcases hr.2 with ⟨rfl, _⟩ | ⟨g, cap, cur, rfl, _, hgb, _⟩
    · simp [Value.ownBlock] at e
    · obtain rfl : g = b := by simpa [Value.ownBlock] using e
      rw [ho] at hgb
      injection hgb with hgb
      subst hgb
      cases hc
theorem RngI.below {w : World} {til : Str} {xl xt base : Nat} {pre : List (Str × Str)} {X Y : World} (h : RngI w til xl xt base pre X) (hb : Below X.heap.size X Y) : RngI w til xl xt base pre Y := by
  obtain ⟨v, hv, hr⟩ := h.row
  exact ⟨⟨v, hv.kept (grown_of_below (r := none) hb) (by simp), own_below hr hb⟩, h.tilb.kept (grown_of_below (r := none) hb) (by simp), h.all, below_then h.bl h.bl.size hb, Nat.le_trans h.sz hb.size⟩
theorem RngI.snoc {w W w1 : World} {til : Str} {xl xt base bi bt : Nat} {pre : List (Str × Str)} {x : Str × Str} {v v' : Value} {tmp : Obj} (h : RngI w til xl xt base pre W) (hv : Boxed W xl 22 v) (hr : W.ownsRow base 38 2 v pre.length (pairsC pre))
    (hx : Isth.below til x = true) (h1 : xl < base) (h2 : w.heap.size ≤ xl) (h3 : xt < base ∧ xt ≠ xl) (h4 : bi < base ∧ bi ≠ xl) (h5 : bt < base ∧ bt ≠ xl)
    (hown : w1.ownsRow base 38 2 v' (pre.length + 1) (pairsC pre ++ [S8 x.1, S8 x.2])) (hg : (W.alloc tmp).grownBy w1 v.ownBlock) :
    Boxed w1 xl 22 v ∧ KeepsFrom base W (w1.setCell ⟨xl, 0, none⟩ v') ∧ Same (fun k => k < w.heap.size ∨ k = bi ∨ k = bt) W (w1.setCell ⟨xl, 0, none⟩ v') ∧ RngI w til xl xt base (pre ++ [x]) (w1.setCell ⟨xl, 0, none⟩ v') := by
  have hlt : ∀ k, k < base → some k ≠ v.ownBlock := fun k hk e => by have := (hr.lt k e.symm).1; omega
  have hb1 : Boxed w1 xl 22 v := (hv.alloc tmp).kept hg (hlt _ h1)
  have hs1 : (W.alloc tmp).heap.size = W.heap.size + 1 := World.size_alloc _ _
  have hsz := h.sz
  have hg1 := hg.size
  refine ⟨hb1, ?_, ?_, ⟨v', hb1.set v', ?_⟩, ?_, ?_, ?_, ?_⟩
  · refine ((KeepsOthers.alloc W tmp).trans (KeepsOthers.of_grownBy hg fun j o ej hj => ?_)).trans (KeepsOthers.setCell _ _ _) |>.from _
    rcases (hr.alloc tmp).2 with ⟨rfl, _⟩ | ⟨g, cap, cur, rfl, _, hgb, _⟩
    · simp [Value.ownBlock] at ej
    · obtain rfl : g = j := by simpa [Value.ownBlock] using ej
      rw [hgb] at hj; cases hj; rfl
  · have hD : ∀ k, (k < w.heap.size ∨ k = bi ∨ k = bt) → k < base ∧ k ≠ xl := fun k hk => by rcases hk with hk | rfl | rfl <;> omega
    refine ((Same.of_grown (World.grownBy_alloc W tmp none) fun k hk => ⟨by have := hD k hk; omega, by simp⟩).trans (Same.of_grown hg fun k hk => ⟨by have := hD k hk; omega, hlt k (hD k hk).1⟩)).trans (Same.of_grown (grownBy_setCell' w1 xl v') fun k hk => ⟨by have := hD k hk; omega, fun e => (hD k hk).2 (by injection e)⟩)
  · have e1 : (pre ++ [x]).length = pre.length + 1 := by simp
    have e2 : pairsC (pre ++ [x]) = pairsC pre ++ [S8 x.1, S8 x.2] := by rw [pairsC_append]; rfl
    rw [e1, e2]
    exact hown.kept (grownBy_setCell' w1 xl v') (.inr (hb1.not_row (by decide) hown).symm)
  · exact ((h.tilb.alloc tmp).kept hg (hlt _ h3.1)).kept (grownBy_setCell' w1 xl v') (fun e => h3.2 (by injection e))
  · intro y hy
    rcases List.mem_append.1 hy with hy | hy
    · exact h.all y hy
    · obtain rfl : y = x := by simpa using hy
      exact hx
  · exact ((h.bl.alloc h.bl.size tmp).grown hg (by have := h.bl.size; omega) (fun k e => by have := (hr.lt k e).1; omega)).setCell (p := ⟨xl, 0, none⟩) h2 _
  · have := (grownBy_setCell' w1 xl v').size
    omega
set_option maxRecDepth 100000 in
set_option maxHeartbeats 4000000 in
theorem range_any (t : Option Av) (v : Value) (frm til : Str) (w : World) (h : TreeO w t v) (hg : Isth.Good t) (hm : manyO t ≤ 900000) :
    Calls Tryd.prog 12 #[v, S8 frm, S8 til] w fun e w' => ∃ r, e = .returned r ∧ w'.ownsRow w.heap.size 38 2 r (rangeO frm til t).length (pairsC (rangeO frm til t)) ∧ Below w.heap.size w w' := by
  obtain ⟨p, rfl⟩ := treeO_ptr h
  have H := Lib.hid (And.intro h (And.intro hg hm))
  clear h hg hm
  obtain ⟨w1, hw1⟩ : ∃ w1, w1 = w.alloc (.cells #[S8 til] 9) := ⟨_, rfl⟩
  obtain ⟨w2, hw2⟩ : ∃ w2, w2 = w1.alloc (.cells #[.slice none 0 0] 22) := ⟨_, rfl⟩
  obtain ⟨w3, hw3⟩ : ∃ w3, w3 = w2.alloc (.cells #[.pointer p] 23) := ⟨_, rfl⟩
  obtain ⟨w4, hw4⟩ : ∃ w4, w4 = w3.alloc (.cells #[.int .i64 ((findO frm t : Nat) : Int)] 3) := ⟨_, rfl⟩
  have s1 : w1.heap.size = w.heap.size + 1 := by rw [hw1, World.size_alloc]
  have s2 : w2.heap.size = w.heap.size + 1 + 1 := by rw [hw2, World.size_alloc, s1]
  have s3 : w3.heap.size = w.heap.size + 1 + 1 + 1 := by rw [hw3, World.size_alloc, s2]
  have s4 : w4.heap.size = w.heap.size + 1 + 1 + 1 + 1 := by rw [hw4, World.size_alloc, s3]
  have b1 : Below w.heap.size w w1 := by rw [hw1]; exact (Below.refl _ _).alloc (Nat.le_refl _) _
  have b2 : Below w.heap.size w w2 := by rw [hw2]; exact b1.alloc b1.size _
  have b3 : Below w.heap.size w w3 := by rw [hw3]; exact b2.alloc b2.size _
  have b4 : Below w.heap.size w w4 := by rw [hw4]; exact b3.alloc b3.size _
  have z1 : Boxed w4 w.heap.size 9 (S8 til) := by rw [hw4, hw3, hw2, hw1]; exact (((Boxed.new w _ _).alloc _).alloc _).alloc _
  have z2 : Boxed w4 (w.heap.size + 1) 22 (.slice none 0 0) := by rw [← s1, hw4, hw3, hw2]; exact ((Boxed.new w1 _ _).alloc _).alloc _
  have z3 : Boxed w4 (w.heap.size + 1 + 1) 23 (.pointer p) := by rw [← s2, hw4, hw3]; exact (Boxed.new w2 _ _).alloc _
  have z4 : Boxed w4 (w.heap.size + 1 + 1 + 1) 3 (.int .i64 ((findO frm t : Nat) : Int)) := by rw [← s3, hw4]; exact Boxed.new w3 _ _
  have H4 := Lib.hid (And.intro b4 (And.intro z1 (And.intro z2 (And.intro z3 (And.intro z4 s4)))))
  have H2 := Lib.hid (And.intro b2 s2)
  refine callsIn_wide.1 (callsIn_of_wp_marks (n := 0) Tryd.func12 rfl trivial (wpIn_wide.2 ?_) rfl)
  simp only [Tryd.ntmps12, List.size_toArray, List.length_cons, List.length_nil, Nat.reduceAdd, Nat.reduceSub, Array.replicate_succ, Array.replicate_zero, List.push_toArray, List.append_toArray, List.nil_append, List.cons_append]
  clear b1 b2 b3 b4 z1 z2 z3 z4 s1 s2 s3 s4
  go_wp2_with fail
  rw [← hw1, ← hw2]
  refine (find_any t (.pointer p) frm _ (H.out.1.below H2.out.1) (by have := H.out.2.2; omega)).mono ?_
  rintro e wq ⟨rfl, hq⟩
  rw [hq]
  go_wp2_with fail
  refine (from_any p _ _).mono ?_
  rintro e wr ⟨rfl, hr⟩
  rw [← hw1, ← hw2, ← hw3, ← hw4] at hr
  rw [hr, ← hw1, ← hw2, H2.out.2]
  clear hw1 hw2 hw3 hw4 hq hr
  go_wp2_with fail
  refine (wpIn_wide (n := 0)).1 ?_
  refine range_box (α := Str × Str) (w := w4) rfl (enters_of Tryd.func88 (by kernel_rfl) rfl) (encs := fun x => #[.agg #[S8 x.1, S8 x.2]]) (fun _ => rfl) (D := fun k => k < w.heap.size ∨ k = w.heap.size + 1 + 1 + 1 ∨ k = w.heap.size + 1 + 1) ?hD (bx := w.heap.size + 1 + 1 + 1) ?hbx
    (iter_gives t p w w4 (findO frm t) (w.heap.size + 1 + 1 + 1) (w.heap.size + 1 + 1) H.out.1 H4.out.1 H.out.2.2 (findO_le H.out.2.1 frm) (by omega) (by omega) (by omega) H4.out.2.2.2.2.1.cell H4.out.2.2.2.2.1.frozen H4.out.2.2.2.1.cell)
    (RngI w til (w.heap.size + 1) w.heap.size w4.heap.size)
    (fun c pre W => ∃ pre' x, c = .exit 0 ∧ pre = pre' ++ [x] ∧ Isth.below til x = false ∧ RngI w til (w.heap.size + 1) w.heap.size w4.heap.size pre' W)
    ?hI ?hIx ?hB ?hBx ?h0
    (fun x a' W => ∃ xp, w4.heap.size ≤ xp ∧ Blk W xp 38 [S8 x.1, S8 x.2] ∧ a' = { tmps := #[.pointer p, S8 frm, S8 til, undef, undef, .pointer (some ⟨w.heap.size, 0, none⟩), .slice none 0 0, .pointer (some ⟨w.heap.size + 1, 0, none⟩), .pointer (some ⟨xp, 0, none⟩), .pointer p, .pointer p, S8 frm, .int .i64 ((findO frm t : Nat) : Int), .func (.func 88) #[] #[.pointer (some ⟨w.heap.size + 1 + 1 + 1, 0, none⟩), .pointer (some ⟨w.heap.size + 1 + 1, 0, none⟩)], .agg #[S8 x.1, S8 x.2], undef, undef, undef, undef, undef, undef, undef, undef, undef, undef, undef, undef, undef], defers := [] })
    ?hAx ?assign ?body ?done ?stop
  case hD => rintro k (h | rfl | rfl) <;> (have := H4.out.2.2.2.2.2; omega)
  case hbx => have := H4.out.2.2.2.2.2; omega
  case hI => exact fun s X Y h hg => h.grown hg (by omega) (by omega) (by omega) (.inl (by have := H4.out.2.2.2.2.2; omega))
  case hIx =>
    rintro c s X Y ⟨pre', x, h1, h2, h3, h⟩ hg
    exact ⟨pre', x, h1, h2, h3, h.grown hg (by omega) (by omega) (by omega) (.inl (by have := H4.out.2.2.2.2.2; omega))⟩
  case hB => exact fun s X k o o' h hk ho hc => h.grown (grownBy_putObj' X k o') (by have := H4.out.2.2.2.2.2; omega) (by have := H4.out.2.2.2.2.2; omega) (by have := H4.out.2.2.2.2.2; omega) (.inr ⟨o, ho, hc⟩)
  case hBx =>
    rintro c s X k o o' ⟨pre', x, h1, h2, h3, h⟩ hk ho hc
    exact ⟨pre', x, h1, h2, h3, h.grown (grownBy_putObj' X k o') (by have := H4.out.2.2.2.2.2; omega) (by have := H4.out.2.2.2.2.2; omega) (by have := H4.out.2.2.2.2.2; omega) (.inr ⟨o, ho, hc⟩)⟩
  case h0 => exact ⟨⟨_, H4.out.2.2.1, World.ownsRow_nil _ _ _ _⟩, H4.out.2.1, by simp, H4.out.1, Nat.le_refl _⟩
  case hAx =>
    rintro x a' X k o o' ⟨xp, h1, h2, h3⟩ hk ho hc
    refine ⟨xp, h1, h2.grown (grownBy_putObj' X k o') (fun e => ?_), h3⟩
    injection e with e
    subst e
    have h := ho.symm.trans h2
    injection h with h
    subst h
    cases hc
  case assign =>
    intro l pre x W K hi hK
    gi_wp2
    have hb : Below W.heap.size W (W.alloc (.cells #[S8 x.1, S8 x.2] 38)) := (Below.refl _ _).alloc (Nat.le_refl _) _
    exact hK _ _ ((KeepsOthers.alloc W _).from _) (Same.of_grown (World.grownBy_alloc W _ none) (fun k hk => ⟨by have := hi.sz; have := H4.out.2.2.2.2.2; rcases hk with hk | rfl | rfl <;> omega, by simp⟩)) (hi.below hb) ⟨_, hi.sz, Blk_new W [S8 x.1, S8 x.2] 38, rfl⟩
  case body =>
    rintro l pre x a' W hi ⟨xp, hxp, hblk, rfl⟩ hN
    have c5 := hi.tilb.cell
    obtain ⟨v, hv, hr⟩ := hi.row
    have cl := hv.cell
    have cf := hv.frozen
    have e0 := hblk.cellD 0 _ rfl
    have e1 := hblk.cellD 1 _ rfl
    have HI := Lib.hid hi
    have hsz := hi.sz
    have hm9 := H.out.2.2
    clear hi
    obtain ⟨i0, hi0, hz0, hs0, hy0⟩ := info_parts tPr.info
    have HBD := Lib.hid (show pre.length + 1 ≤ maxLen ∧ (pre.length + 1) * 32 ≤ 140737488355328 by unfold maxLen; omega)
    have HV := Lib.hid (And.intro hv (And.intro hr hsz))
    have HS4 := Lib.hid H4.out.2.2.2.2.2
    clear hr hv hsz hm9 hN
    by_cases hte : til = []
    · have HBE := Lib.hid (show Isth.below til x = true by unfold Isth.below; rw [hte]; rfl)
      gi_wp2_with (gi_at_builtin; refine wpListIn_append_own _ rfl _ _ 22 rfl w4.heap.size 38 i0 (.agg #[S8 [], S8 []]) 2 32 Tryd.underlying22 hi0 hz0 hs0 hy0 rfl (by decide) v pre.length _ rfl (HV.out.2.1.alloc _) ⟨W.heap.size, 0, none⟩ 1 1 [S8 x.1, S8 x.2] rfl rfl (fun j u hu => by rw [add_plain, Nat.zero_add]; exact (Blk_new W [S8 x.1, S8 x.2] 38).cellD j u hu) (pairC_one x) HBD.out.1 HBD.out.2 (by have := HV.out.2.2; simp; omega) ?_; intro v' w1 hown' hgrow _; obtain ⟨A', c', rfl, -⟩ := own_slice hown'; obtain ⟨hb1, hks⟩ := RngI.snoc (bi := w.heap.size + 1 + 1 + 1) (bt := w.heap.size + 1 + 1) HI.out HV.out.1 HV.out.2.1 HBE.out (by have := HS4.out; omega) (by omega) (by have := HS4.out; omega) (by have := HS4.out; omega) (by have := HS4.out; omega) hown' hgrow; have hc1 := hb1.cell; have hf1 := hb1.frozen; have HKS := Lib.hid hks; clear hb1 hks hown' hgrow)
      exact HKS.out
    · have hemp : List.isEmpty til = false := by cases til with | nil => exact absurd rfl hte | cons => rfl
      rcases hbel : Op.bytesLess x.fst til with _ | _
      · have HBE := Lib.hid (show Isth.below til x = false by unfold Isth.below; rw [hemp, hbel]; rfl)
        clear cl cf
        gi_wp2
        exact ⟨KeepsFrom.refl _ _, pre, x, rfl, rfl, HBE.out, HI.out⟩
      · have HBE := Lib.hid (show Isth.below til x = true by unfold Isth.below; rw [hemp, hbel]; rfl)
        gi_wp2_with (gi_at_builtin; refine wpListIn_append_own _ rfl _ _ 22 rfl w4.heap.size 38 i0 (.agg #[S8 [], S8 []]) 2 32 Tryd.underlying22 hi0 hz0 hs0 hy0 rfl (by decide) v pre.length _ rfl (HV.out.2.1.alloc _) ⟨W.heap.size, 0, none⟩ 1 1 [S8 x.1, S8 x.2] rfl rfl (fun j u hu => by rw [add_plain, Nat.zero_add]; exact (Blk_new W [S8 x.1, S8 x.2] 38).cellD j u hu) (pairC_one x) HBD.out.1 HBD.out.2 (by have := HV.out.2.2; simp; omega) ?_; intro v' w1 hown' hgrow _; obtain ⟨A', c', rfl, -⟩ := own_slice hown'; obtain ⟨hb1, hks⟩ := RngI.snoc (bi := w.heap.size + 1 + 1 + 1) (bt := w.heap.size + 1 + 1) HI.out HV.out.1 HV.out.2.1 HBE.out (by have := HS4.out; omega) (by omega) (by have := HS4.out; omega) (by have := HS4.out; omega) (by have := HS4.out; omega) hown' hgrow; have hc1 := hb1.cell; have hf1 := hb1.frozen; have HKS := Lib.hid hks; clear hb1 hks hown' hgrow)
        exact HKS.out
  case done =>
    rintro xs W rfl hi hD
    obtain ⟨v, hv, hr⟩ := hi.row
    have cl := hv.cell
    obtain ⟨A, c, rfl, _⟩ := own_slice hr
    have HI := Lib.hid (And.intro hi (And.intro hr hD))
    have HR := Lib.hid (show rangeO frm til t = (pairsO t).drop (findO frm t) by rw [← range_list H.out.2.1]; exact while_all _ hi.all)
    clear hi hr hD hv
    go_wp2
    refine ⟨by simp, .inl ⟨_, _, rfl, run_takeDeferred HI.out.2.2, ?_⟩⟩
    refine ⟨_, results_tmp rfl _ _ _, _, rfl, ?_, HI.out.1.bl.trans (belowK_b (w := w4) H4.out.1.size W w4.heap.size _ _ (Nat.le_refl _) HI.out.2.2 rfl rfl)⟩
    rw [HR.out]
    have h := own_mono (ownsRow_putObj HI.out.2.1 (.deferred none) HI.out.2.2 rfl) H4.out.1.size
    simpa using h
  case stop =>
    rintro c pre W hpre ⟨pre', x, rfl, rfl, hx, hi⟩ hD
    obtain ⟨v, hv, hr⟩ := hi.row
    have cl := hv.cell
    obtain ⟨A, c, rfl, _⟩ := own_slice hr
    have HI := Lib.hid (And.intro hi (And.intro hr hD))
    have HR := Lib.hid (show rangeO frm til t = pre' by
      obtain ⟨post, hpo⟩ := hpre
      rw [← range_list H.out.2.1, ← hpo, List.append_assoc]
      exact while_stop pre' x post hi.all hx)
    clear hi hr hD hv hpre hx
    refine (wpIn_wide (n := 0)).2 ?_
    go_wp2
    refine ⟨by simp, .inl ⟨_, _, rfl, run_takeDeferred HI.out.2.2, ?_⟩⟩
    refine ⟨_, results_tmp rfl _ _ _, _, rfl, ?_, HI.out.1.bl.trans (belowK_b (w := w4) H4.out.1.size W w4.heap.size _ _ (Nat.le_refl _) HI.out.2.2 rfl rfl)⟩
    rw [HR.out]
    have h := own_mono (ownsRow_putObj HI.out.2.1 (.deferred none) HI.out.2.2 rfl) H4.out.1.size
    exact h
end Go.Proofs.YtdekealpachhmaaDoor
