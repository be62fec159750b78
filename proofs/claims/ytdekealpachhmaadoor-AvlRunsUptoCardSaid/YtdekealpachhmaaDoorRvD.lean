/- Layer 7's reference: Drop by its contract. -/
import Derived.Test.YtdekealpachhmaaDoorRvG
import Derived.Test.YtdekealpachhmaaDoorReg3
namespace Go.Proofs.YtdekealpachhmaaDoor
open Go Go.RowKit Go.Isth

theorem RO.store {w w' : World} {x : Nat} (hx : Blk w x 26 emptyC) (hg : w.grownBy w' (some x)) {t : Option Av} {cs : List Value} (h : RO w t cs) : RO w' t cs := by
  cases t with
  | none => exact h
  | some t => exact RC.store hx hg h
theorem RO.is {w : World} {t : Option Av} {cs : List Value} (h : RO w t cs) : cs[0]? = some (.bool t.isSome) := by
  cases t with
  | none => obtain rfl := h; rfl
  | some t =>
    cases t with
    | leaf => obtain rfl := h; rfl
    | node => obtain ⟨_, _, _, rfl, _⟩ := h; rfl
def RDrop (t : Av) : Prop := ∀ (key : Str) (cs : List Value) (w : World), RC w t cs → Isth.Good (some t) → t.many ≤ 900000 →
    Calls Tryd.prog 65 #[.agg cs.toArray, S8 key] w fun e w' => ∃ cs', e = .returned (.agg cs'.toArray) ∧ RO w' (dropO key (some t)) cs' ∧ Below w.heap.size w w'
set_option maxRecDepth 100000 in
set_option maxHeartbeats 2000000 in
theorem rdrop_no (t : Option Av) (key : Str) (cs : List Value) (w : World) (h : RO w t cs) (hgd : Isth.Good t) (hm : manyO t ≤ 900000) (hno : getO key t = none) :
    Calls Tryd.prog 65 #[.agg cs.toArray, S8 key] w fun e w' => ∃ cs', e = .returned (.agg cs'.toArray) ∧ RO w' t cs' ∧ Below w.heap.size w w' := by
  have lc := h.len
  obtain ⟨w1, hw1⟩ : ∃ w1, w1 = w.alloc (.cells cs.toArray 26) := ⟨_, rfl⟩
  obtain ⟨w3, hw3⟩ : ∃ w3, w3 = w1.alloc (.cells emptyC.toArray 26) := ⟨_, rfl⟩
  obtain ⟨xa, hxa⟩ : ∃ n, n = w.heap.size := ⟨_, rfl⟩
  have s1 : w1.heap.size = xa + 1 := by rw [hw1, World.size_alloc, hxa]
  have s3 : w3.heap.size = xa + 1 + 1 := by rw [hw3, World.size_alloc, s1]
  have b1 : Below w.heap.size w w1 := by rw [hw1]; exact (Below.refl _ _).alloc (Nat.le_refl _) _
  have b3 : Below w.heap.size w w3 := by rw [hw3]; exact b1.alloc b1.size _
  have z1 : Blk w3 xa 26 cs := by rw [hw3, hw1, hxa]; exact (Blk_new w cs 26).alloc _
  have z3 : Blk w3 (xa + 1) 26 emptyC := by rw [← s1, hw3]; exact Blk_new w1 emptyC 26
  have HW0 := Lib.hid b3
  have HX := Lib.hid z3
  have HXA := Lib.hid (And.intro hxa s3)
  have uT := Tryd.underlying26
  have HT := Lib.hid (And.intro (h.below b3) (And.intro hgd (And.intro hm hno)))
  have HLC := Lib.hid lc
  have HZ1 := Lib.hid z1
  have HLD := Lib.hid (run_load_agg (P := Tryd.prog) Tryd.underlying26 rfl (by kernel_rfl) w3 ⟨xa, 0, none⟩ cs lc (fun j u hj => by rw [add_plain, Nat.zero_add]; exact z1.cellD j u hj))
  go_enter Tryd.func65, Tryd.ntmps65
  go_upto_region 1 with fail
  change Code.wp _ _ _ _ ((w.alloc (.cells cs.toArray 26)).alloc (.cells emptyC.toArray 26))
  rw [← hw1, ← hw3, ← hxa]
  clear hw1 hw3 hxa s1 s3 b1 b3 z1 z3 h hgd hm hno lc
  go_wp2_with (refine wpList_load rfl (.tmp 2) rfl ⟨xa, 0, none⟩ (.agg cs.toArray) rfl HLD.out ?_)
  refine (rget_any t key cs w3 HT.out.1 HT.out.2.1 HT.out.2.2.1).mono ?_
  rintro e wc ⟨rfl, hb⟩
  have HB := Lib.hid hb
  have HLD2 := Lib.hid (run_load_agg (P := Tryd.prog) Tryd.underlying26 rfl (by kernel_rfl) wc ⟨xa, 0, none⟩ cs HLC.out (fun j u hj => by rw [add_plain, Nat.zero_add]; exact (HZ1.out.below hb).cellD j u hj))
  clear hb
  rw [HT.out.2.2.2]
  unfold getVal
  go_wp2_with (first
    | (refine wpList_load rfl (.tmp 2) rfl ⟨xa, 0, none⟩ (.agg cs.toArray) rfl HLD2.out ?_)
    | (refine wpList_store_blk rfl 26 (.tmp 4) _ rfl (xa + 1) cs rfl rfl 26 _ (HX.out.below HB.out) (by rw [HLC.out]; kernel_rfl) (by rw [HLC.out]; rfl) HT.out.1.one ?_; intro w9 hz hg))
  refine bodyPost_ret (results_blk rfl _ _ (xa + 1) 26 cs _ rfl hz uT rfl (by rw [HLC.out]; kernel_rfl)) rfl ⟨_, rfl, RO.store (HX.out.below HB.out) hg (HT.out.1.below HB.out), ?_⟩
  exact (below_then HW0.out HW0.out.size HB.out).grown hg (below_then HW0.out HW0.out.size HB.out).size (fun q e => by injection e with e; have := HXA.out; omega)
set_option maxRecDepth 100000 in
set_option maxHeartbeats 2000000 in
theorem rdrop_leaf (k v : Str) : RDrop (.leaf k v) := by
  intro key cs w h hgd hm
  rcases hge : Av.get key (.leaf k v) with _ | u
  · have e : dropO key (some (.leaf k v)) = some (.leaf k v) := by simp only [dropO, hge]
    rw [e]
    exact rdrop_no (some (.leaf k v)) key cs w h hgd hm hge
  · have e : dropO key (some (.leaf k v)) = none := by simp only [dropO, hge]; rfl
    rw [e]
    have lc := h.len
    have hcs : cs = [.bool true, S8 k, S8 v, .slice none 0 0] := h
    obtain ⟨w1, hw1⟩ : ∃ w1, w1 = w.alloc (.cells cs.toArray 26) := ⟨_, rfl⟩
    obtain ⟨w3, hw3⟩ : ∃ w3, w3 = w1.alloc (.cells emptyC.toArray 26) := ⟨_, rfl⟩
    obtain ⟨xa, hxa⟩ : ∃ n, n = w.heap.size := ⟨_, rfl⟩
    have s1 : w1.heap.size = xa + 1 := by rw [hw1, World.size_alloc, hxa]
    have s3 : w3.heap.size = xa + 1 + 1 := by rw [hw3, World.size_alloc, s1]
    have b1 : Below w.heap.size w w1 := by rw [hw1]; exact (Below.refl _ _).alloc (Nat.le_refl _) _
    have b3 : Below w.heap.size w w3 := by rw [hw3]; exact b1.alloc b1.size _
    have z1 : Blk w3 xa 26 cs := by rw [hw3, hw1, hxa]; exact (Blk_new w cs 26).alloc _
    have z3 : Blk w3 (xa + 1) 26 emptyC := by rw [← s1, hw3]; exact Blk_new w1 emptyC 26
    have HW0 := Lib.hid b3
    have HX := Lib.hid z3
    have HXA := Lib.hid (And.intro hxa s3)
    have uT := Tryd.underlying26
    have e3 : w3.cell? ⟨xa, 3, none⟩ = some (.slice none 0 0) := z1.cellD 3 _ (by rw [hcs]; rfl)
    have HT := Lib.hid (And.intro (RC.below b3 h) (And.intro hgd (And.intro hm hge)))
    have HE3 := Lib.hid e3
    have HLD := Lib.hid (run_load_agg (P := Tryd.prog) Tryd.underlying26 rfl (by kernel_rfl) w3 ⟨xa, 0, none⟩ cs lc (fun j u hj => by rw [add_plain, Nat.zero_add]; exact z1.cellD j u hj))
    clear hcs e3
    go_enter Tryd.func65, Tryd.ntmps65
    go_upto_region 1 with fail
    change Code.wp _ _ _ _ ((w.alloc (.cells cs.toArray 26)).alloc (.cells emptyC.toArray 26))
    rw [← hw1, ← hw3, ← hxa]
    clear hw1 hw3 hxa s1 s3 b1 b3 z1 z3 h hgd hm hge lc
    go_wp2_with (refine wpList_load rfl (.tmp 2) rfl ⟨xa, 0, none⟩ (.agg cs.toArray) rfl HLD.out ?_)
    refine (rget_any (some (.leaf k v)) key cs w3 HT.out.1 HT.out.2.1 HT.out.2.2.1).mono ?_
    rintro e wc ⟨rfl, hb⟩
    have HB := Lib.hid hb
    have e3 := cell_below HE3.out hb
    clear hb
    rw [show getO key (some (.leaf k v)) = some u from HT.out.2.2.2]
    unfold getVal
    go_wp2_with (refine wpList_store_blk rfl 26 (.tmp 4) _ rfl (xa + 1) emptyC rfl rfl 26 _ (HX.out.below HB.out) (by kernel_rfl) rfl (RO.one (w := wc) (t := none) rfl) ?_; intro w9 hz hg)
    refine bodyPost_ret (results_blk rfl _ _ (xa + 1) 26 emptyC _ rfl hz uT rfl (by kernel_rfl)) rfl ⟨_, rfl, rfl, ?_⟩
    exact (below_then HW0.out HW0.out.size HB.out).grown hg (below_then HW0.out HW0.out.size HB.out).size (fun q e => by injection e with e; have := HXA.out; omega)
set_option maxRecDepth 100000 in
set_option maxHeartbeats 8000000 in
theorem rdrop_node (a b : Av) (IHa : Hid (RDrop a)) (IHb : Hid (RDrop b)) : RDrop (.node a b) := by
  intro key cs w h hgd hm
  rcases hge : Av.get key (.node a b) with _ | u
  · have e : dropO key (some (.node a b)) = some (.node a b) := by simp only [dropO, hge]
    rw [e]
    exact rdrop_no (some (.node a b)) key cs w h hgd hm hge
  · have e : dropO key (some (.node a b)) = joinO (dropO key (some a)) (dropO key (some b)) := by
      rw [← drop_join hgd.2 (by rw [hge]; simp)]
      simp only [dropO, hge]
    rw [e]
    clear e
    have lc := h.len
    obtain ⟨g, ca, cb, hcs, hra, hrb, ha, hb⟩ := rnode h
    have la := ha.len
    have lb := hb.len
    have hgw := range_lt hra (by rw [la]; omega)
    have hga : Isth.Good (some a) := ⟨hgd.1.1, (sorted_node hgd.2).1⟩
    have hgb : Isth.Good (some b) := ⟨hgd.1.2.1, (sorted_node hgd.2).2.1⟩
    have HGA := Lib.hid (And.intro hga hgb)
    have hm' : a.many + b.many ≤ 900000 := hm
    have hma := many_dropO key (some a)
    have hmb := many_dropO key (some b)
    have HM := Lib.hid hm'
    have hba : ∀ x y, dropO key (some a) = some x → dropO key (some b) = some y → x.many + y.many ≤ 900000 ∧ x.height ≤ y.height + 2 ∧ y.height ≤ x.height + 2 := by
      intro x y hx hy
      rw [hx] at hma
      rw [hy] at hmb
      simp only [manyO] at hma hmb
      have hbal := hgd.1
      have r1 : a.height ≤ x.height + 1 ∧ x.height ≤ a.height := by
        cases hq : a.get key with
        | none => simp only [dropO, hq] at hx; obtain rfl := Option.some.inj hx; omega
        | some q => simp only [dropO, hq] at hx; have := (Av.drop_bal key a hbal.1).2 x hx; omega
      have r2 : b.height ≤ y.height + 1 ∧ y.height ≤ b.height := by
        cases hq : b.get key with
        | none => simp only [dropO, hq] at hy; obtain rfl := Option.some.inj hy; omega
        | some q => simp only [dropO, hq] at hy; have := (Av.drop_bal key b hbal.2.1).2 y hy; omega
      have := hbal.2.2
      try simp only [Av.many] at hma hmb
      have d1 : x.height ≤ y.height + 2 ∧ y.height ≤ x.height + 2 := by
        rcases Nat.lt_or_ge (x.height) (a.height) with hlt | hge'
        · have hda : a.get key ≠ none := by
            intro hq
            simp only [dropO, hq] at hx
            obtain rfl := Option.some.inj hx
            omega
          have hyb : y = b := by
            have hj := drop_join hgd.2 (key := key) (by rw [hge]; simp)
            have hbn : b.get key = none := by
              obtain ⟨v, hv⟩ := Option.ne_none_iff_exists'.1 hda
              refine get_none hgb.2 fun v' hv' => ?_
              have h1 := (get_pairs a key hga.2 v).1 hv
              have := (Sorted.append.1 hgd.2).2.2 _ h1 _ hv'
              rw [less_irrefl] at this
              cases this
            simp only [dropO, hbn] at hy
            exact (Option.some.inj hy).symm
          subst hyb
          omega
        · omega
      omega
    have HBA := Lib.hid hba
    clear hma hmb hba
    obtain ⟨w1, hw1⟩ : ∃ w1, w1 = w.alloc (.cells cs.toArray 26) := ⟨_, rfl⟩
    obtain ⟨w3, hw3⟩ : ∃ w3, w3 = w1.alloc (.cells emptyC.toArray 26) := ⟨_, rfl⟩
    obtain ⟨xa, hxa⟩ : ∃ n, n = w.heap.size := ⟨_, rfl⟩
    have s1 : w1.heap.size = xa + 1 := by rw [hw1, World.size_alloc, hxa]
    have s3 : w3.heap.size = xa + 1 + 1 := by rw [hw3, World.size_alloc, s1]
    have b1 : Below w.heap.size w w1 := by rw [hw1]; exact (Below.refl _ _).alloc (Nat.le_refl _) _
    have b3 : Below w.heap.size w w3 := by rw [hw3]; exact b1.alloc b1.size _
    have z1 : Blk w3 xa 26 cs := by rw [hw3, hw1, hxa]; exact (Blk_new w cs 26).alloc _
    have z3 : Blk w3 (xa + 1) 26 emptyC := by rw [← s1, hw3]; exact Blk_new w1 emptyC 26
    have HW0 := Lib.hid b3
    have HX := Lib.hid z3
    have HXA := Lib.hid (And.intro hxa s3)
    have uT := Tryd.underlying26
    have e3 : w3.cell? ⟨xa, 3, none⟩ = some (.slice (some ⟨g, 0, none⟩) 2 2) := z1.cellD 3 _ (by rw [hcs]; rfl)
    have HTS : Hid (∀ w', Off w3 (xa + 1) w' → w'.cell? ⟨xa, 3, none⟩ = some (.slice (some ⟨g, 0, none⟩) 2 2) ∧ w'.rangeAt g 0 ca ∧ w'.rangeAt g 4 cb) := Lib.hid fun w' h => ⟨cell_off e3 h (by omega), range_off (range_below hra b3) h (by omega), range_off (range_below hrb b3) h (by omega)⟩
    have HT := Lib.hid (And.intro (RC.below b3 h) (And.intro (ha.below b3) (And.intro (hb.below b3) (And.intro hgd (And.intro hm hge)))))
    have i1 : (Tryd.prog.info? 26).map (·.size) = some ca.length := by rw [la]; kernel_rfl
    have i2 : (Tryd.prog.info? 26).map (·.size) = some cb.length := by rw [lb]; kernel_rfl
    have HLD := Lib.hid (run_load_agg (P := Tryd.prog) Tryd.underlying26 rfl (by kernel_rfl) w3 ⟨xa, 0, none⟩ cs lc (fun j u hj => by rw [add_plain, Nat.zero_add]; exact z1.cellD j u hj))
    clear hcs e3
    go_enter Tryd.func65, Tryd.ntmps65
    go_upto_region 1 with fail
    change Code.wp _ _ _ _ ((w.alloc (.cells cs.toArray 26)).alloc (.cells emptyC.toArray 26))
    rw [← hw1, ← hw3, ← hxa]
    clear hw1 hw3 hxa s1 s3 b1 b3 z1 z3 h hgd hm hm' hge lc la lb hra hrb ha hb hgw hga hgb
    go_wp2_with (refine wpList_load rfl (.tmp 2) rfl ⟨xa, 0, none⟩ (.agg cs.toArray) rfl HLD.out ?_)
    refine (rget_any (some (.node a b)) key cs w3 HT.out.1 HT.out.2.2.2.1 HT.out.2.2.2.2.1).mono ?_
    rintro e wc ⟨rfl, hb⟩
    have HB := Lib.hid (below_then hb hb.size (refl_drewN wc 1))
    have e3 := (HTS.out _ (off_below hb)).1
    clear hb
    rw [show getO key (some (.node a b)) = some u from HT.out.2.2.2.2.2]
    unfold getVal
    go_wp2_with fail
    clear e3
    go_cut [7, 8] from 23 (fun v7 v8 wr => ∃ (g7 g8 : Nat) (c7 c8 : List Value), v7 = .pointer (some ⟨g7, 0, none⟩) ∧ v8 = .pointer (some ⟨g8, 0, none⟩) ∧ Below w3.heap.size w3 wr ∧ Blk wr g7 26 c7 ∧ Blk wr g8 26 c8 ∧ RO wr (dropO key (some a)) c7 ∧ RO wr (dropO key (some b)) c8)
    case first =>
      refine wp_region_held_drew (S := (fun w' => w'.cell? ⟨xa, 3, none⟩ = some (.slice (some ⟨g, 0, none⟩) 2 2) ∧ w'.rangeAt g 0 ca ∧ w'.rangeAt g 4 cb)) (by kernel_rfl) ?qs0 (fun hHeld => ?_)
      case qs0 => exact HTS.out _ (off_below HB.out)
      refine held_take (i := 0) (v := ?q1v) rfl (by kernel_rfl) (by kernel_rfl) (by kernel_rfl) (fun _ _ _ h => h) (by rfl) ?q1y hHeld ?_
      case q1y => ((intro w _hSw; (try dsimp only at _hSw); go_simp); try (with_reducible rfl))
      try simp only [Act.put, List.setIfInBounds_toArray, List.set_cons_zero, List.set_cons_succ]
      refine held_take (i := 1) (v := ?q2v) rfl (by kernel_rfl) (by kernel_rfl) (by kernel_rfl) (fun _ _ _ h => h) (by rfl) ?q2y hHeld ?_
      case q2y => ((intro w _hSw; (try dsimp only at _hSw); go_simp); try (with_reducible rfl))
      try simp only [Act.put, List.setIfInBounds_toArray, List.set_cons_zero, List.set_cons_succ]
      refine held_take (i := 2) (v := ?q3v) rfl (by kernel_rfl) (by kernel_rfl) (by kernel_rfl) (fun _ _ _ h => h) (by rfl) ?q3y hHeld ?_
      case q3y => ((intro w _hSw; (try dsimp only at _hSw); go_simp); try (with_reducible rfl))
      try simp only [Act.put, List.setIfInBounds_toArray, List.set_cons_zero, List.set_cons_succ]
      refine held_row (i := 3) rfl (by kernel_rfl) (by kernel_rfl) (by kernel_rfl) _ _ rfl _ _ rfl ?q4C ?q4D (fun _ _ _ h => h) (by rfl) ?q4a ?q4b ?q4c ?q4d hHeld ?_
      case q4a => (intro w hSw; (try dsimp only at hSw); go_split_ands; assumption)
      case q4b => assumption
      case q4c => rfl
      case q4d => first | assumption | (simp only [*]; done)
      try simp only [Act.put, List.setIfInBounds_toArray, List.set_cons_zero, List.set_cons_succ]
      refine held_take (i := 4) (v := ?q5v) rfl (by kernel_rfl) (by kernel_rfl) (by kernel_rfl) (fun _ _ _ h => h) (by rfl) ?q5y hHeld ?_
      case q5y => ((intro w _hSw; (try dsimp only at _hSw); go_simp); try (with_reducible rfl))
      try simp only [Act.put, List.setIfInBounds_toArray, List.set_cons_zero, List.set_cons_succ]
      refine held_take (i := 6) (v := ?q6v) rfl (by kernel_rfl) (by kernel_rfl) (by kernel_rfl) (fun _ _ _ h => h) (by rfl) ?q6y hHeld ?_
      case q6y => ((intro w _hSw; (try dsimp only at _hSw); go_simp); try (with_reducible rfl))
      try simp only [Act.put, List.setIfInBounds_toArray, List.set_cons_zero, List.set_cons_succ]
      refine held_take (i := 7) (v := ?q7v) rfl (by kernel_rfl) (by kernel_rfl) (by kernel_rfl) (fun _ _ _ h => h) (by rfl) ?q7y hHeld ?_
      case q7y => ((intro w _hSw; (try dsimp only at _hSw); go_simp); try (with_reducible rfl))
      try simp only [Act.put, List.setIfInBounds_toArray, List.set_cons_zero, List.set_cons_succ]
      refine held_take (i := 8) (v := ?q8v) rfl (by kernel_rfl) (by kernel_rfl) (by kernel_rfl) (fun _ _ _ h => h) (by rfl) ?q8y hHeld ?_
      case q8y => ((intro w _hSw; (try dsimp only at _hSw); go_simp); try (with_reducible rfl))
      try simp only [Act.put, List.setIfInBounds_toArray, List.set_cons_zero, List.set_cons_succ]
      refine held_row (i := 9) rfl (by kernel_rfl) (by kernel_rfl) (by kernel_rfl) _ _ rfl _ _ rfl ?q9C ?q9D (fun _ _ _ h => h) (by rfl) ?q9a ?q9b ?q9c ?q9d hHeld ?_
      case q9a => (intro w hSw; (try dsimp only at hSw); go_split_ands; assumption)
      case q9b => assumption
      case q9c => rfl
      case q9d => first | assumption | (simp only [*]; done)
      try simp only [Act.put, List.setIfInBounds_toArray, List.set_cons_zero, List.set_cons_succ]
      refine held_take (i := 10) (v := ?q10v) rfl (by kernel_rfl) (by kernel_rfl) (by kernel_rfl) (fun _ _ _ h => h) (by rfl) ?q10y hHeld ?_
      case q10y => ((intro w _hSw; (try dsimp only at _hSw); go_simp); try (with_reducible rfl))
      try simp only [Act.put, List.setIfInBounds_toArray, List.set_cons_zero, List.set_cons_succ]
      refine held_three (i := 5) (j := 12) (k := 13) rfl rfl rfl (by kernel_rfl) (by rfl) (by rfl) (by rfl) (fun K hK => ?_) (fun K hK => ?_) (fun K hK => ?_)
      · skip
        go_simp
        refine (IHa.out key ca _ (HT.out.2.1.below HB.out) HGA.out.1 (by have := HM.out; omega)).mono ?_
        rintro e wc ⟨q1, rfl, hn, hb⟩
        try have HL7 := Lib.hid (HL7.out.below hb)
        try have HL8 := Lib.hid (HL8.out.below hb)
        try have Hq2 := Lib.hid (Hq2.out.below hb)
        have Hq1 := Lib.hid hn
        have HB := Lib.hid (below_then HB.out HB.out.size hb)
        clear hn hb
        go_wp2_with fail
        have hHeld := HTS.out _ (off_below HB.out)
        refine hK.out _ _ (HTS.out _ (off_below HB.out)) ?_
        clear hK K
        try simp only [Act.put, List.setIfInBounds_toArray, List.set_cons_zero, List.set_cons_succ]
        refine held_three (i := 11) (j := 12) (k := 13) rfl rfl rfl (by kernel_rfl) (by rfl) (by rfl) (by rfl) (fun K hK => ?_) (fun K hK => ?_) (fun K hK => ?_)
        · skip
          go_simp
          refine (IHb.out key cb _ (HT.out.2.2.1.below HB.out) HGA.out.2 (by have := HM.out; omega)).mono ?_
          rintro e wc ⟨q2, rfl, hn, hb⟩
          try have HL7 := Lib.hid (HL7.out.below hb)
          try have HL8 := Lib.hid (HL8.out.below hb)
          try have Hq1 := Lib.hid (Hq1.out.below hb)
          have Hq2 := Lib.hid hn
          have HB := Lib.hid (below_then HB.out HB.out.size hb)
          clear hn hb
          go_wp2_with fail
          have hHeld := HTS.out _ (off_below HB.out)
          refine hK.out _ _ (HTS.out _ (off_below HB.out)) ?_
          clear hK K
          try simp only [Act.put, List.setIfInBounds_toArray, List.set_cons_zero, List.set_cons_succ]
          refine held_two (i := 12) (j := 13) rfl rfl (by kernel_rfl) (by rfl) (by rfl) (fun K hK => ?_) (fun K hK => ?_)
          · skip
            go_simp
            try (first | have HNE := Lib.hid (blk_lt2 HL8.out) | have HNE := Lib.hid HL8.out.lt)
            try have HL8 := Lib.hid (HL8.out.alloc (.cells emptyC.toArray 26))
            first | have HL7 := Lib.hid (blk_new_at2 HB.out emptyC 26) | have HL7 := Lib.hid (blk_new_at HB.out emptyC 26)
            first | have HGL7 := Lib.hid (size_at2 HB.out) | have HGL7 := Lib.hid HB.out.size
            try have Hq1 := Lib.hid (Hq1.out.below ((Below.refl _ _).alloc (Nat.le_refl _) (.cells emptyC.toArray 26)))
            try have Hq2 := Lib.hid (Hq2.out.below ((Below.refl _ _).alloc (Nat.le_refl _) (.cells emptyC.toArray 26)))
            have HB := Lib.hid (HB.out.alloc HB.out.size (.cells emptyC.toArray 26))
            have hHeld := HTS.out _ (off_below HB.out)
            refine hK.out _ _ (HTS.out _ (off_below HB.out)) ?_
            clear hK K
            (try simp only [Act.put]); (try simp only [List.setIfInBounds_toArray]); (try simp only [List.set_cons_succ]); (try simp only [List.set_cons_zero])
            refine held_step (i := 13) rfl (by kernel_rfl) (by rfl) (fun K hK => ?_)
            go_simp
            try (first | have HNE := Lib.hid (blk_lt2 HL7.out) | have HNE := Lib.hid HL7.out.lt)
            try have HL7 := Lib.hid (HL7.out.alloc (.cells emptyC.toArray 26))
            first | have HL8 := Lib.hid (blk_new_at2 HB.out emptyC 26) | have HL8 := Lib.hid (blk_new_at HB.out emptyC 26)
            first | have HGL8 := Lib.hid (size_at2 HB.out) | have HGL8 := Lib.hid HB.out.size
            try have Hq1 := Lib.hid (Hq1.out.below ((Below.refl _ _).alloc (Nat.le_refl _) (.cells emptyC.toArray 26)))
            try have Hq2 := Lib.hid (Hq2.out.below ((Below.refl _ _).alloc (Nat.le_refl _) (.cells emptyC.toArray 26)))
            have HB := Lib.hid (HB.out.alloc HB.out.size (.cells emptyC.toArray 26))
            have hHeld := HTS.out _ (off_below HB.out)
            refine hK.out _ _ (HTS.out _ (off_below HB.out)) ?_
            clear hK K
            (try simp only [Act.put]); (try simp only [List.setIfInBounds_toArray]); (try simp only [List.set_cons_succ]); (try simp only [List.set_cons_zero])
            refine held_step (i := 14) rfl (by kernel_rfl) (by rfl) (fun K hK => ?_)
            refine wp_store_blk 26 (.tmp 7) (.tmp 28) rfl _ q1 rfl rfl 26 _ HL7.out (by rw [Hq1.out.len]; kernel_rfl) (by rw [Hq1.out.len]; rfl) Hq1.out.one ?_
            intro wc hz hg
            have Hq1 := Lib.hid (RO.store HL7.out hg Hq1.out)
            have Hq2 := Lib.hid (RO.store HL7.out hg Hq2.out)
            have HL8 := Lib.hid (HL8.out.grown hg (by first | exact fun e => Nat.ne_of_lt HNE.out (Option.some.inj e) | exact fun e => Nat.ne_of_gt HNE.out (Option.some.inj e)))
            have HL7 := Lib.hid hz
            have HB := Lib.hid (HB.out.grown hg HB.out.size (fun q e => (Option.some.inj e) ▸ HGL7.out))
            clear hz hg
            have hHeld := HTS.out _ (off_below HB.out)
            refine hK.out _ _ (HTS.out _ (off_below HB.out)) ?_
            clear hK K
            (try simp only [Act.put]); (try simp only [List.setIfInBounds_toArray]); (try simp only [List.set_cons_succ]); (try simp only [List.set_cons_zero])
            refine held_step (i := 15) rfl (by kernel_rfl) (by rfl) (fun K hK => ?_)
            refine wp_store_blk 26 (.tmp 8) (.tmp 34) rfl _ q2 rfl rfl 26 _ HL8.out (by rw [Hq2.out.len]; kernel_rfl) (by rw [Hq2.out.len]; rfl) Hq2.out.one ?_
            intro wc hz hg
            have Hq1 := Lib.hid (RO.store HL8.out hg Hq1.out)
            have Hq2 := Lib.hid (RO.store HL8.out hg Hq2.out)
            have HL7 := Lib.hid (HL7.out.grown hg (by first | exact fun e => Nat.ne_of_lt HNE.out (Option.some.inj e) | exact fun e => Nat.ne_of_gt HNE.out (Option.some.inj e)))
            have HL8 := Lib.hid hz
            have HB := Lib.hid (HB.out.grown hg HB.out.size (fun q e => (Option.some.inj e) ▸ HGL8.out))
            clear hz hg
            have hHeld := HTS.out _ (off_below HB.out)
            refine hK.out _ _ (HTS.out _ (off_below HB.out)) ?_
            clear hK K
            (try simp only [Act.put]); (try simp only [List.setIfInBounds_toArray]); (try simp only [List.set_cons_succ]); (try simp only [List.set_cons_zero])
            refine wpAnyH_done (by kernel_rfl) ?_ _
            go_wp2
            go_meet
            case rel => exact ⟨_, _, q1, q2, rfl, rfl, HB.out, HL7.out, HL8.out, Hq1.out, Hq2.out⟩
          · skip
            go_simp
            try (first | have HNE := Lib.hid (blk_lt2 HL7.out) | have HNE := Lib.hid HL7.out.lt)
            try have HL7 := Lib.hid (HL7.out.alloc (.cells emptyC.toArray 26))
            first | have HL8 := Lib.hid (blk_new_at2 HB.out emptyC 26) | have HL8 := Lib.hid (blk_new_at HB.out emptyC 26)
            first | have HGL8 := Lib.hid (size_at2 HB.out) | have HGL8 := Lib.hid HB.out.size
            try have Hq1 := Lib.hid (Hq1.out.below ((Below.refl _ _).alloc (Nat.le_refl _) (.cells emptyC.toArray 26)))
            try have Hq2 := Lib.hid (Hq2.out.below ((Below.refl _ _).alloc (Nat.le_refl _) (.cells emptyC.toArray 26)))
            have HB := Lib.hid (HB.out.alloc HB.out.size (.cells emptyC.toArray 26))
            have hHeld := HTS.out _ (off_below HB.out)
            refine hK.out _ _ (HTS.out _ (off_below HB.out)) ?_
            clear hK K
            (try simp only [Act.put]); (try simp only [List.setIfInBounds_toArray]); (try simp only [List.set_cons_succ]); (try simp only [List.set_cons_zero])
            refine held_step (i := 12) rfl (by kernel_rfl) (by rfl) (fun K hK => ?_)
            go_simp
            try (first | have HNE := Lib.hid (blk_lt2 HL8.out) | have HNE := Lib.hid HL8.out.lt)
            try have HL8 := Lib.hid (HL8.out.alloc (.cells emptyC.toArray 26))
            first | have HL7 := Lib.hid (blk_new_at2 HB.out emptyC 26) | have HL7 := Lib.hid (blk_new_at HB.out emptyC 26)
            first | have HGL7 := Lib.hid (size_at2 HB.out) | have HGL7 := Lib.hid HB.out.size
            try have Hq1 := Lib.hid (Hq1.out.below ((Below.refl _ _).alloc (Nat.le_refl _) (.cells emptyC.toArray 26)))
            try have Hq2 := Lib.hid (Hq2.out.below ((Below.refl _ _).alloc (Nat.le_refl _) (.cells emptyC.toArray 26)))
            have HB := Lib.hid (HB.out.alloc HB.out.size (.cells emptyC.toArray 26))
            have hHeld := HTS.out _ (off_below HB.out)
            refine hK.out _ _ (HTS.out _ (off_below HB.out)) ?_
            clear hK K
            (try simp only [Act.put]); (try simp only [List.setIfInBounds_toArray]); (try simp only [List.set_cons_succ]); (try simp only [List.set_cons_zero])
            refine held_step (i := 14) rfl (by kernel_rfl) (by rfl) (fun K hK => ?_)
            refine wp_store_blk 26 (.tmp 7) (.tmp 28) rfl _ q1 rfl rfl 26 _ HL7.out (by rw [Hq1.out.len]; kernel_rfl) (by rw [Hq1.out.len]; rfl) Hq1.out.one ?_
            intro wc hz hg
            have Hq1 := Lib.hid (RO.store HL7.out hg Hq1.out)
            have Hq2 := Lib.hid (RO.store HL7.out hg Hq2.out)
            have HL8 := Lib.hid (HL8.out.grown hg (by first | exact fun e => Nat.ne_of_lt HNE.out (Option.some.inj e) | exact fun e => Nat.ne_of_gt HNE.out (Option.some.inj e)))
            have HL7 := Lib.hid hz
            have HB := Lib.hid (HB.out.grown hg HB.out.size (fun q e => (Option.some.inj e) ▸ HGL7.out))
            clear hz hg
            have hHeld := HTS.out _ (off_below HB.out)
            refine hK.out _ _ (HTS.out _ (off_below HB.out)) ?_
            clear hK K
            (try simp only [Act.put]); (try simp only [List.setIfInBounds_toArray]); (try simp only [List.set_cons_succ]); (try simp only [List.set_cons_zero])
            refine held_step (i := 15) rfl (by kernel_rfl) (by rfl) (fun K hK => ?_)
            refine wp_store_blk 26 (.tmp 8) (.tmp 34) rfl _ q2 rfl rfl 26 _ HL8.out (by rw [Hq2.out.len]; kernel_rfl) (by rw [Hq2.out.len]; rfl) Hq2.out.one ?_
            intro wc hz hg
            have Hq1 := Lib.hid (RO.store HL8.out hg Hq1.out)
            have Hq2 := Lib.hid (RO.store HL8.out hg Hq2.out)
            have HL7 := Lib.hid (HL7.out.grown hg (by first | exact fun e => Nat.ne_of_lt HNE.out (Option.some.inj e) | exact fun e => Nat.ne_of_gt HNE.out (Option.some.inj e)))
            have HL8 := Lib.hid hz
            have HB := Lib.hid (HB.out.grown hg HB.out.size (fun q e => (Option.some.inj e) ▸ HGL8.out))
            clear hz hg
            have hHeld := HTS.out _ (off_below HB.out)
            refine hK.out _ _ (HTS.out _ (off_below HB.out)) ?_
            clear hK K
            (try simp only [Act.put]); (try simp only [List.setIfInBounds_toArray]); (try simp only [List.set_cons_succ]); (try simp only [List.set_cons_zero])
            refine wpAnyH_done (by kernel_rfl) ?_ _
            go_wp2
            go_meet
            case rel => exact ⟨_, _, q1, q2, rfl, rfl, HB.out, HL7.out, HL8.out, Hq1.out, Hq2.out⟩
        · skip
          go_simp
          try (first | have HNE := Lib.hid (blk_lt2 HL8.out) | have HNE := Lib.hid HL8.out.lt)
          try have HL8 := Lib.hid (HL8.out.alloc (.cells emptyC.toArray 26))
          first | have HL7 := Lib.hid (blk_new_at2 HB.out emptyC 26) | have HL7 := Lib.hid (blk_new_at HB.out emptyC 26)
          first | have HGL7 := Lib.hid (size_at2 HB.out) | have HGL7 := Lib.hid HB.out.size
          try have Hq1 := Lib.hid (Hq1.out.below ((Below.refl _ _).alloc (Nat.le_refl _) (.cells emptyC.toArray 26)))
          try have Hq2 := Lib.hid (Hq2.out.below ((Below.refl _ _).alloc (Nat.le_refl _) (.cells emptyC.toArray 26)))
          have HB := Lib.hid (HB.out.alloc HB.out.size (.cells emptyC.toArray 26))
          have hHeld := HTS.out _ (off_below HB.out)
          refine hK.out _ _ (HTS.out _ (off_below HB.out)) ?_
          clear hK K
          (try simp only [Act.put]); (try simp only [List.setIfInBounds_toArray]); (try simp only [List.set_cons_succ]); (try simp only [List.set_cons_zero])
          refine held_two (i := 11) (j := 13) rfl rfl (by kernel_rfl) (by rfl) (by rfl) (fun K hK => ?_) (fun K hK => ?_)
          · skip
            go_simp
            refine (IHb.out key cb _ (HT.out.2.2.1.below HB.out) HGA.out.2 (by have := HM.out; omega)).mono ?_
            rintro e wc ⟨q2, rfl, hn, hb⟩
            try have HL7 := Lib.hid (HL7.out.below hb)
            try have HL8 := Lib.hid (HL8.out.below hb)
            try have Hq1 := Lib.hid (Hq1.out.below hb)
            have Hq2 := Lib.hid hn
            have HB := Lib.hid (below_then HB.out HB.out.size hb)
            clear hn hb
            go_wp2_with fail
            have hHeld := HTS.out _ (off_below HB.out)
            refine hK.out _ _ (HTS.out _ (off_below HB.out)) ?_
            clear hK K
            try simp only [Act.put, List.setIfInBounds_toArray, List.set_cons_zero, List.set_cons_succ]
            refine held_step (i := 13) rfl (by kernel_rfl) (by rfl) (fun K hK => ?_)
            go_simp
            try (first | have HNE := Lib.hid (blk_lt2 HL7.out) | have HNE := Lib.hid HL7.out.lt)
            try have HL7 := Lib.hid (HL7.out.alloc (.cells emptyC.toArray 26))
            first | have HL8 := Lib.hid (blk_new_at2 HB.out emptyC 26) | have HL8 := Lib.hid (blk_new_at HB.out emptyC 26)
            first | have HGL8 := Lib.hid (size_at2 HB.out) | have HGL8 := Lib.hid HB.out.size
            try have Hq1 := Lib.hid (Hq1.out.below ((Below.refl _ _).alloc (Nat.le_refl _) (.cells emptyC.toArray 26)))
            try have Hq2 := Lib.hid (Hq2.out.below ((Below.refl _ _).alloc (Nat.le_refl _) (.cells emptyC.toArray 26)))
            have HB := Lib.hid (HB.out.alloc HB.out.size (.cells emptyC.toArray 26))
            have hHeld := HTS.out _ (off_below HB.out)
            refine hK.out _ _ (HTS.out _ (off_below HB.out)) ?_
            clear hK K
            (try simp only [Act.put]); (try simp only [List.setIfInBounds_toArray]); (try simp only [List.set_cons_succ]); (try simp only [List.set_cons_zero])
            refine held_step (i := 14) rfl (by kernel_rfl) (by rfl) (fun K hK => ?_)
            refine wp_store_blk 26 (.tmp 7) (.tmp 28) rfl _ q1 rfl rfl 26 _ HL7.out (by rw [Hq1.out.len]; kernel_rfl) (by rw [Hq1.out.len]; rfl) Hq1.out.one ?_
            intro wc hz hg
            have Hq1 := Lib.hid (RO.store HL7.out hg Hq1.out)
            have Hq2 := Lib.hid (RO.store HL7.out hg Hq2.out)
            have HL8 := Lib.hid (HL8.out.grown hg (by first | exact fun e => Nat.ne_of_lt HNE.out (Option.some.inj e) | exact fun e => Nat.ne_of_gt HNE.out (Option.some.inj e)))
            have HL7 := Lib.hid hz
            have HB := Lib.hid (HB.out.grown hg HB.out.size (fun q e => (Option.some.inj e) ▸ HGL7.out))
            clear hz hg
            have hHeld := HTS.out _ (off_below HB.out)
            refine hK.out _ _ (HTS.out _ (off_below HB.out)) ?_
            clear hK K
            (try simp only [Act.put]); (try simp only [List.setIfInBounds_toArray]); (try simp only [List.set_cons_succ]); (try simp only [List.set_cons_zero])
            refine held_step (i := 15) rfl (by kernel_rfl) (by rfl) (fun K hK => ?_)
            refine wp_store_blk 26 (.tmp 8) (.tmp 34) rfl _ q2 rfl rfl 26 _ HL8.out (by rw [Hq2.out.len]; kernel_rfl) (by rw [Hq2.out.len]; rfl) Hq2.out.one ?_
            intro wc hz hg
            have Hq1 := Lib.hid (RO.store HL8.out hg Hq1.out)
            have Hq2 := Lib.hid (RO.store HL8.out hg Hq2.out)
            have HL7 := Lib.hid (HL7.out.grown hg (by first | exact fun e => Nat.ne_of_lt HNE.out (Option.some.inj e) | exact fun e => Nat.ne_of_gt HNE.out (Option.some.inj e)))
            have HL8 := Lib.hid hz
            have HB := Lib.hid (HB.out.grown hg HB.out.size (fun q e => (Option.some.inj e) ▸ HGL8.out))
            clear hz hg
            have hHeld := HTS.out _ (off_below HB.out)
            refine hK.out _ _ (HTS.out _ (off_below HB.out)) ?_
            clear hK K
            (try simp only [Act.put]); (try simp only [List.setIfInBounds_toArray]); (try simp only [List.set_cons_succ]); (try simp only [List.set_cons_zero])
            refine wpAnyH_done (by kernel_rfl) ?_ _
            go_wp2
            go_meet
            case rel => exact ⟨_, _, q1, q2, rfl, rfl, HB.out, HL7.out, HL8.out, Hq1.out, Hq2.out⟩
          · skip
            go_simp
            try (first | have HNE := Lib.hid (blk_lt2 HL7.out) | have HNE := Lib.hid HL7.out.lt)
            try have HL7 := Lib.hid (HL7.out.alloc (.cells emptyC.toArray 26))
            first | have HL8 := Lib.hid (blk_new_at2 HB.out emptyC 26) | have HL8 := Lib.hid (blk_new_at HB.out emptyC 26)
            first | have HGL8 := Lib.hid (size_at2 HB.out) | have HGL8 := Lib.hid HB.out.size
            try have Hq1 := Lib.hid (Hq1.out.below ((Below.refl _ _).alloc (Nat.le_refl _) (.cells emptyC.toArray 26)))
            try have Hq2 := Lib.hid (Hq2.out.below ((Below.refl _ _).alloc (Nat.le_refl _) (.cells emptyC.toArray 26)))
            have HB := Lib.hid (HB.out.alloc HB.out.size (.cells emptyC.toArray 26))
            have hHeld := HTS.out _ (off_below HB.out)
            refine hK.out _ _ (HTS.out _ (off_below HB.out)) ?_
            clear hK K
            (try simp only [Act.put]); (try simp only [List.setIfInBounds_toArray]); (try simp only [List.set_cons_succ]); (try simp only [List.set_cons_zero])
            refine held_step (i := 11) rfl (by kernel_rfl) (by rfl) (fun K hK => ?_)
            go_simp
            refine (IHb.out key cb _ (HT.out.2.2.1.below HB.out) HGA.out.2 (by have := HM.out; omega)).mono ?_
            rintro e wc ⟨q2, rfl, hn, hb⟩
            try have HL7 := Lib.hid (HL7.out.below hb)
            try have HL8 := Lib.hid (HL8.out.below hb)
            try have Hq1 := Lib.hid (Hq1.out.below hb)
            have Hq2 := Lib.hid hn
            have HB := Lib.hid (below_then HB.out HB.out.size hb)
            clear hn hb
            go_wp2_with fail
            have hHeld := HTS.out _ (off_below HB.out)
            refine hK.out _ _ (HTS.out _ (off_below HB.out)) ?_
            clear hK K
            try simp only [Act.put, List.setIfInBounds_toArray, List.set_cons_zero, List.set_cons_succ]
            refine held_step (i := 14) rfl (by kernel_rfl) (by rfl) (fun K hK => ?_)
            refine wp_store_blk 26 (.tmp 7) (.tmp 28) rfl _ q1 rfl rfl 26 _ HL7.out (by rw [Hq1.out.len]; kernel_rfl) (by rw [Hq1.out.len]; rfl) Hq1.out.one ?_
            intro wc hz hg
            have Hq1 := Lib.hid (RO.store HL7.out hg Hq1.out)
            have Hq2 := Lib.hid (RO.store HL7.out hg Hq2.out)
            have HL8 := Lib.hid (HL8.out.grown hg (by first | exact fun e => Nat.ne_of_lt HNE.out (Option.some.inj e) | exact fun e => Nat.ne_of_gt HNE.out (Option.some.inj e)))
            have HL7 := Lib.hid hz
            have HB := Lib.hid (HB.out.grown hg HB.out.size (fun q e => (Option.some.inj e) ▸ HGL7.out))
            clear hz hg
            have hHeld := HTS.out _ (off_below HB.out)
            refine hK.out _ _ (HTS.out _ (off_below HB.out)) ?_
            clear hK K
            (try simp only [Act.put]); (try simp only [List.setIfInBounds_toArray]); (try simp only [List.set_cons_succ]); (try simp only [List.set_cons_zero])
            refine held_step (i := 15) rfl (by kernel_rfl) (by rfl) (fun K hK => ?_)
            refine wp_store_blk 26 (.tmp 8) (.tmp 34) rfl _ q2 rfl rfl 26 _ HL8.out (by rw [Hq2.out.len]; kernel_rfl) (by rw [Hq2.out.len]; rfl) Hq2.out.one ?_
            intro wc hz hg
            have Hq1 := Lib.hid (RO.store HL8.out hg Hq1.out)
            have Hq2 := Lib.hid (RO.store HL8.out hg Hq2.out)
            have HL7 := Lib.hid (HL7.out.grown hg (by first | exact fun e => Nat.ne_of_lt HNE.out (Option.some.inj e) | exact fun e => Nat.ne_of_gt HNE.out (Option.some.inj e)))
            have HL8 := Lib.hid hz
            have HB := Lib.hid (HB.out.grown hg HB.out.size (fun q e => (Option.some.inj e) ▸ HGL8.out))
            clear hz hg
            have hHeld := HTS.out _ (off_below HB.out)
            refine hK.out _ _ (HTS.out _ (off_below HB.out)) ?_
            clear hK K
            (try simp only [Act.put]); (try simp only [List.setIfInBounds_toArray]); (try simp only [List.set_cons_succ]); (try simp only [List.set_cons_zero])
            refine wpAnyH_done (by kernel_rfl) ?_ _
            go_wp2
            go_meet
            case rel => exact ⟨_, _, q1, q2, rfl, rfl, HB.out, HL7.out, HL8.out, Hq1.out, Hq2.out⟩
        · skip
          go_simp
          try (first | have HNE := Lib.hid (blk_lt2 HL7.out) | have HNE := Lib.hid HL7.out.lt)
          try have HL7 := Lib.hid (HL7.out.alloc (.cells emptyC.toArray 26))
          first | have HL8 := Lib.hid (blk_new_at2 HB.out emptyC 26) | have HL8 := Lib.hid (blk_new_at HB.out emptyC 26)
          first | have HGL8 := Lib.hid (size_at2 HB.out) | have HGL8 := Lib.hid HB.out.size
          try have Hq1 := Lib.hid (Hq1.out.below ((Below.refl _ _).alloc (Nat.le_refl _) (.cells emptyC.toArray 26)))
          try have Hq2 := Lib.hid (Hq2.out.below ((Below.refl _ _).alloc (Nat.le_refl _) (.cells emptyC.toArray 26)))
          have HB := Lib.hid (HB.out.alloc HB.out.size (.cells emptyC.toArray 26))
          have hHeld := HTS.out _ (off_below HB.out)
          refine hK.out _ _ (HTS.out _ (off_below HB.out)) ?_
          clear hK K
          (try simp only [Act.put]); (try simp only [List.setIfInBounds_toArray]); (try simp only [List.set_cons_succ]); (try simp only [List.set_cons_zero])
          refine held_two (i := 11) (j := 12) rfl rfl (by kernel_rfl) (by rfl) (by rfl) (fun K hK => ?_) (fun K hK => ?_)
          · skip
            go_simp
            refine (IHb.out key cb _ (HT.out.2.2.1.below HB.out) HGA.out.2 (by have := HM.out; omega)).mono ?_
            rintro e wc ⟨q2, rfl, hn, hb⟩
            try have HL7 := Lib.hid (HL7.out.below hb)
            try have HL8 := Lib.hid (HL8.out.below hb)
            try have Hq1 := Lib.hid (Hq1.out.below hb)
            have Hq2 := Lib.hid hn
            have HB := Lib.hid (below_then HB.out HB.out.size hb)
            clear hn hb
            go_wp2_with fail
            have hHeld := HTS.out _ (off_below HB.out)
            refine hK.out _ _ (HTS.out _ (off_below HB.out)) ?_
            clear hK K
            try simp only [Act.put, List.setIfInBounds_toArray, List.set_cons_zero, List.set_cons_succ]
            refine held_step (i := 12) rfl (by kernel_rfl) (by rfl) (fun K hK => ?_)
            go_simp
            try (first | have HNE := Lib.hid (blk_lt2 HL8.out) | have HNE := Lib.hid HL8.out.lt)
            try have HL8 := Lib.hid (HL8.out.alloc (.cells emptyC.toArray 26))
            first | have HL7 := Lib.hid (blk_new_at2 HB.out emptyC 26) | have HL7 := Lib.hid (blk_new_at HB.out emptyC 26)
            first | have HGL7 := Lib.hid (size_at2 HB.out) | have HGL7 := Lib.hid HB.out.size
            try have Hq1 := Lib.hid (Hq1.out.below ((Below.refl _ _).alloc (Nat.le_refl _) (.cells emptyC.toArray 26)))
            try have Hq2 := Lib.hid (Hq2.out.below ((Below.refl _ _).alloc (Nat.le_refl _) (.cells emptyC.toArray 26)))
            have HB := Lib.hid (HB.out.alloc HB.out.size (.cells emptyC.toArray 26))
            have hHeld := HTS.out _ (off_below HB.out)
            refine hK.out _ _ (HTS.out _ (off_below HB.out)) ?_
            clear hK K
            (try simp only [Act.put]); (try simp only [List.setIfInBounds_toArray]); (try simp only [List.set_cons_succ]); (try simp only [List.set_cons_zero])
            refine held_step (i := 14) rfl (by kernel_rfl) (by rfl) (fun K hK => ?_)
            refine wp_store_blk 26 (.tmp 7) (.tmp 28) rfl _ q1 rfl rfl 26 _ HL7.out (by rw [Hq1.out.len]; kernel_rfl) (by rw [Hq1.out.len]; rfl) Hq1.out.one ?_
            intro wc hz hg
            have Hq1 := Lib.hid (RO.store HL7.out hg Hq1.out)
            have Hq2 := Lib.hid (RO.store HL7.out hg Hq2.out)
            have HL8 := Lib.hid (HL8.out.grown hg (by first | exact fun e => Nat.ne_of_lt HNE.out (Option.some.inj e) | exact fun e => Nat.ne_of_gt HNE.out (Option.some.inj e)))
            have HL7 := Lib.hid hz
            have HB := Lib.hid (HB.out.grown hg HB.out.size (fun q e => (Option.some.inj e) ▸ HGL7.out))
            clear hz hg
            have hHeld := HTS.out _ (off_below HB.out)
            refine hK.out _ _ (HTS.out _ (off_below HB.out)) ?_
            clear hK K
            (try simp only [Act.put]); (try simp only [List.setIfInBounds_toArray]); (try simp only [List.set_cons_succ]); (try simp only [List.set_cons_zero])
            refine held_step (i := 15) rfl (by kernel_rfl) (by rfl) (fun K hK => ?_)
            refine wp_store_blk 26 (.tmp 8) (.tmp 34) rfl _ q2 rfl rfl 26 _ HL8.out (by rw [Hq2.out.len]; kernel_rfl) (by rw [Hq2.out.len]; rfl) Hq2.out.one ?_
            intro wc hz hg
            have Hq1 := Lib.hid (RO.store HL8.out hg Hq1.out)
            have Hq2 := Lib.hid (RO.store HL8.out hg Hq2.out)
            have HL7 := Lib.hid (HL7.out.grown hg (by first | exact fun e => Nat.ne_of_lt HNE.out (Option.some.inj e) | exact fun e => Nat.ne_of_gt HNE.out (Option.some.inj e)))
            have HL8 := Lib.hid hz
            have HB := Lib.hid (HB.out.grown hg HB.out.size (fun q e => (Option.some.inj e) ▸ HGL8.out))
            clear hz hg
            have hHeld := HTS.out _ (off_below HB.out)
            refine hK.out _ _ (HTS.out _ (off_below HB.out)) ?_
            clear hK K
            (try simp only [Act.put]); (try simp only [List.setIfInBounds_toArray]); (try simp only [List.set_cons_succ]); (try simp only [List.set_cons_zero])
            refine wpAnyH_done (by kernel_rfl) ?_ _
            go_wp2
            go_meet
            case rel => exact ⟨_, _, q1, q2, rfl, rfl, HB.out, HL7.out, HL8.out, Hq1.out, Hq2.out⟩
          · skip
            go_simp
            try (first | have HNE := Lib.hid (blk_lt2 HL8.out) | have HNE := Lib.hid HL8.out.lt)
            try have HL8 := Lib.hid (HL8.out.alloc (.cells emptyC.toArray 26))
            first | have HL7 := Lib.hid (blk_new_at2 HB.out emptyC 26) | have HL7 := Lib.hid (blk_new_at HB.out emptyC 26)
            first | have HGL7 := Lib.hid (size_at2 HB.out) | have HGL7 := Lib.hid HB.out.size
            try have Hq1 := Lib.hid (Hq1.out.below ((Below.refl _ _).alloc (Nat.le_refl _) (.cells emptyC.toArray 26)))
            try have Hq2 := Lib.hid (Hq2.out.below ((Below.refl _ _).alloc (Nat.le_refl _) (.cells emptyC.toArray 26)))
            have HB := Lib.hid (HB.out.alloc HB.out.size (.cells emptyC.toArray 26))
            have hHeld := HTS.out _ (off_below HB.out)
            refine hK.out _ _ (HTS.out _ (off_below HB.out)) ?_
            clear hK K
            (try simp only [Act.put]); (try simp only [List.setIfInBounds_toArray]); (try simp only [List.set_cons_succ]); (try simp only [List.set_cons_zero])
            refine held_step (i := 11) rfl (by kernel_rfl) (by rfl) (fun K hK => ?_)
            go_simp
            refine (IHb.out key cb _ (HT.out.2.2.1.below HB.out) HGA.out.2 (by have := HM.out; omega)).mono ?_
            rintro e wc ⟨q2, rfl, hn, hb⟩
            try have HL7 := Lib.hid (HL7.out.below hb)
            try have HL8 := Lib.hid (HL8.out.below hb)
            try have Hq1 := Lib.hid (Hq1.out.below hb)
            have Hq2 := Lib.hid hn
            have HB := Lib.hid (below_then HB.out HB.out.size hb)
            clear hn hb
            go_wp2_with fail
            have hHeld := HTS.out _ (off_below HB.out)
            refine hK.out _ _ (HTS.out _ (off_below HB.out)) ?_
            clear hK K
            try simp only [Act.put, List.setIfInBounds_toArray, List.set_cons_zero, List.set_cons_succ]
            refine held_step (i := 14) rfl (by kernel_rfl) (by rfl) (fun K hK => ?_)
            refine wp_store_blk 26 (.tmp 7) (.tmp 28) rfl _ q1 rfl rfl 26 _ HL7.out (by rw [Hq1.out.len]; kernel_rfl) (by rw [Hq1.out.len]; rfl) Hq1.out.one ?_
            intro wc hz hg
            have Hq1 := Lib.hid (RO.store HL7.out hg Hq1.out)
            have Hq2 := Lib.hid (RO.store HL7.out hg Hq2.out)
            have HL8 := Lib.hid (HL8.out.grown hg (by first | exact fun e => Nat.ne_of_lt HNE.out (Option.some.inj e) | exact fun e => Nat.ne_of_gt HNE.out (Option.some.inj e)))
            have HL7 := Lib.hid hz
            have HB := Lib.hid (HB.out.grown hg HB.out.size (fun q e => (Option.some.inj e) ▸ HGL7.out))
            clear hz hg
            have hHeld := HTS.out _ (off_below HB.out)
            refine hK.out _ _ (HTS.out _ (off_below HB.out)) ?_
            clear hK K
            (try simp only [Act.put]); (try simp only [List.setIfInBounds_toArray]); (try simp only [List.set_cons_succ]); (try simp only [List.set_cons_zero])
            refine held_step (i := 15) rfl (by kernel_rfl) (by rfl) (fun K hK => ?_)
            refine wp_store_blk 26 (.tmp 8) (.tmp 34) rfl _ q2 rfl rfl 26 _ HL8.out (by rw [Hq2.out.len]; kernel_rfl) (by rw [Hq2.out.len]; rfl) Hq2.out.one ?_
            intro wc hz hg
            have Hq1 := Lib.hid (RO.store HL8.out hg Hq1.out)
            have Hq2 := Lib.hid (RO.store HL8.out hg Hq2.out)
            have HL7 := Lib.hid (HL7.out.grown hg (by first | exact fun e => Nat.ne_of_lt HNE.out (Option.some.inj e) | exact fun e => Nat.ne_of_gt HNE.out (Option.some.inj e)))
            have HL8 := Lib.hid hz
            have HB := Lib.hid (HB.out.grown hg HB.out.size (fun q e => (Option.some.inj e) ▸ HGL8.out))
            clear hz hg
            have hHeld := HTS.out _ (off_below HB.out)
            refine hK.out _ _ (HTS.out _ (off_below HB.out)) ?_
            clear hK K
            (try simp only [Act.put]); (try simp only [List.setIfInBounds_toArray]); (try simp only [List.set_cons_succ]); (try simp only [List.set_cons_zero])
            refine wpAnyH_done (by kernel_rfl) ?_ _
            go_wp2
            go_meet
            case rel => exact ⟨_, _, q1, q2, rfl, rfl, HB.out, HL7.out, HL8.out, Hq1.out, Hq2.out⟩
      · skip
        go_simp
        try (first | have HNE := Lib.hid (blk_lt2 HL8.out) | have HNE := Lib.hid HL8.out.lt)
        try have HL8 := Lib.hid (HL8.out.alloc (.cells emptyC.toArray 26))
        first | have HL7 := Lib.hid (blk_new_at2 HB.out emptyC 26) | have HL7 := Lib.hid (blk_new_at HB.out emptyC 26)
        first | have HGL7 := Lib.hid (size_at2 HB.out) | have HGL7 := Lib.hid HB.out.size
        try have Hq1 := Lib.hid (Hq1.out.below ((Below.refl _ _).alloc (Nat.le_refl _) (.cells emptyC.toArray 26)))
        try have Hq2 := Lib.hid (Hq2.out.below ((Below.refl _ _).alloc (Nat.le_refl _) (.cells emptyC.toArray 26)))
        have HB := Lib.hid (HB.out.alloc HB.out.size (.cells emptyC.toArray 26))
        have hHeld := HTS.out _ (off_below HB.out)
        refine hK.out _ _ (HTS.out _ (off_below HB.out)) ?_
        clear hK K
        (try simp only [Act.put]); (try simp only [List.setIfInBounds_toArray]); (try simp only [List.set_cons_succ]); (try simp only [List.set_cons_zero])
        refine held_two (i := 5) (j := 13) rfl rfl (by kernel_rfl) (by rfl) (by rfl) (fun K hK => ?_) (fun K hK => ?_)
        · skip
          go_simp
          refine (IHa.out key ca _ (HT.out.2.1.below HB.out) HGA.out.1 (by have := HM.out; omega)).mono ?_
          rintro e wc ⟨q1, rfl, hn, hb⟩
          try have HL7 := Lib.hid (HL7.out.below hb)
          try have HL8 := Lib.hid (HL8.out.below hb)
          try have Hq2 := Lib.hid (Hq2.out.below hb)
          have Hq1 := Lib.hid hn
          have HB := Lib.hid (below_then HB.out HB.out.size hb)
          clear hn hb
          go_wp2_with fail
          have hHeld := HTS.out _ (off_below HB.out)
          refine hK.out _ _ (HTS.out _ (off_below HB.out)) ?_
          clear hK K
          try simp only [Act.put, List.setIfInBounds_toArray, List.set_cons_zero, List.set_cons_succ]
          refine held_two (i := 11) (j := 13) rfl rfl (by kernel_rfl) (by rfl) (by rfl) (fun K hK => ?_) (fun K hK => ?_)
          · skip
            go_simp
            refine (IHb.out key cb _ (HT.out.2.2.1.below HB.out) HGA.out.2 (by have := HM.out; omega)).mono ?_
            rintro e wc ⟨q2, rfl, hn, hb⟩
            try have HL7 := Lib.hid (HL7.out.below hb)
            try have HL8 := Lib.hid (HL8.out.below hb)
            try have Hq1 := Lib.hid (Hq1.out.below hb)
            have Hq2 := Lib.hid hn
            have HB := Lib.hid (below_then HB.out HB.out.size hb)
            clear hn hb
            go_wp2_with fail
            have hHeld := HTS.out _ (off_below HB.out)
            refine hK.out _ _ (HTS.out _ (off_below HB.out)) ?_
            clear hK K
            try simp only [Act.put, List.setIfInBounds_toArray, List.set_cons_zero, List.set_cons_succ]
            refine held_step (i := 13) rfl (by kernel_rfl) (by rfl) (fun K hK => ?_)
            go_simp
            try (first | have HNE := Lib.hid (blk_lt2 HL7.out) | have HNE := Lib.hid HL7.out.lt)
            try have HL7 := Lib.hid (HL7.out.alloc (.cells emptyC.toArray 26))
            first | have HL8 := Lib.hid (blk_new_at2 HB.out emptyC 26) | have HL8 := Lib.hid (blk_new_at HB.out emptyC 26)
            first | have HGL8 := Lib.hid (size_at2 HB.out) | have HGL8 := Lib.hid HB.out.size
            try have Hq1 := Lib.hid (Hq1.out.below ((Below.refl _ _).alloc (Nat.le_refl _) (.cells emptyC.toArray 26)))
            try have Hq2 := Lib.hid (Hq2.out.below ((Below.refl _ _).alloc (Nat.le_refl _) (.cells emptyC.toArray 26)))
            have HB := Lib.hid (HB.out.alloc HB.out.size (.cells emptyC.toArray 26))
            have hHeld := HTS.out _ (off_below HB.out)
            refine hK.out _ _ (HTS.out _ (off_below HB.out)) ?_
            clear hK K
            (try simp only [Act.put]); (try simp only [List.setIfInBounds_toArray]); (try simp only [List.set_cons_succ]); (try simp only [List.set_cons_zero])
            refine held_step (i := 14) rfl (by kernel_rfl) (by rfl) (fun K hK => ?_)
            refine wp_store_blk 26 (.tmp 7) (.tmp 28) rfl _ q1 rfl rfl 26 _ HL7.out (by rw [Hq1.out.len]; kernel_rfl) (by rw [Hq1.out.len]; rfl) Hq1.out.one ?_
            intro wc hz hg
            have Hq1 := Lib.hid (RO.store HL7.out hg Hq1.out)
            have Hq2 := Lib.hid (RO.store HL7.out hg Hq2.out)
            have HL8 := Lib.hid (HL8.out.grown hg (by first | exact fun e => Nat.ne_of_lt HNE.out (Option.some.inj e) | exact fun e => Nat.ne_of_gt HNE.out (Option.some.inj e)))
            have HL7 := Lib.hid hz
            have HB := Lib.hid (HB.out.grown hg HB.out.size (fun q e => (Option.some.inj e) ▸ HGL7.out))
            clear hz hg
            have hHeld := HTS.out _ (off_below HB.out)
            refine hK.out _ _ (HTS.out _ (off_below HB.out)) ?_
            clear hK K
            (try simp only [Act.put]); (try simp only [List.setIfInBounds_toArray]); (try simp only [List.set_cons_succ]); (try simp only [List.set_cons_zero])
            refine held_step (i := 15) rfl (by kernel_rfl) (by rfl) (fun K hK => ?_)
            refine wp_store_blk 26 (.tmp 8) (.tmp 34) rfl _ q2 rfl rfl 26 _ HL8.out (by rw [Hq2.out.len]; kernel_rfl) (by rw [Hq2.out.len]; rfl) Hq2.out.one ?_
            intro wc hz hg
            have Hq1 := Lib.hid (RO.store HL8.out hg Hq1.out)
            have Hq2 := Lib.hid (RO.store HL8.out hg Hq2.out)
            have HL7 := Lib.hid (HL7.out.grown hg (by first | exact fun e => Nat.ne_of_lt HNE.out (Option.some.inj e) | exact fun e => Nat.ne_of_gt HNE.out (Option.some.inj e)))
            have HL8 := Lib.hid hz
            have HB := Lib.hid (HB.out.grown hg HB.out.size (fun q e => (Option.some.inj e) ▸ HGL8.out))
            clear hz hg
            have hHeld := HTS.out _ (off_below HB.out)
            refine hK.out _ _ (HTS.out _ (off_below HB.out)) ?_
            clear hK K
            (try simp only [Act.put]); (try simp only [List.setIfInBounds_toArray]); (try simp only [List.set_cons_succ]); (try simp only [List.set_cons_zero])
            refine wpAnyH_done (by kernel_rfl) ?_ _
            go_wp2
            go_meet
            case rel => exact ⟨_, _, q1, q2, rfl, rfl, HB.out, HL7.out, HL8.out, Hq1.out, Hq2.out⟩
          · skip
            go_simp
            try (first | have HNE := Lib.hid (blk_lt2 HL7.out) | have HNE := Lib.hid HL7.out.lt)
            try have HL7 := Lib.hid (HL7.out.alloc (.cells emptyC.toArray 26))
            first | have HL8 := Lib.hid (blk_new_at2 HB.out emptyC 26) | have HL8 := Lib.hid (blk_new_at HB.out emptyC 26)
            first | have HGL8 := Lib.hid (size_at2 HB.out) | have HGL8 := Lib.hid HB.out.size
            try have Hq1 := Lib.hid (Hq1.out.below ((Below.refl _ _).alloc (Nat.le_refl _) (.cells emptyC.toArray 26)))
            try have Hq2 := Lib.hid (Hq2.out.below ((Below.refl _ _).alloc (Nat.le_refl _) (.cells emptyC.toArray 26)))
            have HB := Lib.hid (HB.out.alloc HB.out.size (.cells emptyC.toArray 26))
            have hHeld := HTS.out _ (off_below HB.out)
            refine hK.out _ _ (HTS.out _ (off_below HB.out)) ?_
            clear hK K
            (try simp only [Act.put]); (try simp only [List.setIfInBounds_toArray]); (try simp only [List.set_cons_succ]); (try simp only [List.set_cons_zero])
            refine held_step (i := 11) rfl (by kernel_rfl) (by rfl) (fun K hK => ?_)
            go_simp
            refine (IHb.out key cb _ (HT.out.2.2.1.below HB.out) HGA.out.2 (by have := HM.out; omega)).mono ?_
            rintro e wc ⟨q2, rfl, hn, hb⟩
            try have HL7 := Lib.hid (HL7.out.below hb)
            try have HL8 := Lib.hid (HL8.out.below hb)
            try have Hq1 := Lib.hid (Hq1.out.below hb)
            have Hq2 := Lib.hid hn
            have HB := Lib.hid (below_then HB.out HB.out.size hb)
            clear hn hb
            go_wp2_with fail
            have hHeld := HTS.out _ (off_below HB.out)
            refine hK.out _ _ (HTS.out _ (off_below HB.out)) ?_
            clear hK K
            try simp only [Act.put, List.setIfInBounds_toArray, List.set_cons_zero, List.set_cons_succ]
            refine held_step (i := 14) rfl (by kernel_rfl) (by rfl) (fun K hK => ?_)
            refine wp_store_blk 26 (.tmp 7) (.tmp 28) rfl _ q1 rfl rfl 26 _ HL7.out (by rw [Hq1.out.len]; kernel_rfl) (by rw [Hq1.out.len]; rfl) Hq1.out.one ?_
            intro wc hz hg
            have Hq1 := Lib.hid (RO.store HL7.out hg Hq1.out)
            have Hq2 := Lib.hid (RO.store HL7.out hg Hq2.out)
            have HL8 := Lib.hid (HL8.out.grown hg (by first | exact fun e => Nat.ne_of_lt HNE.out (Option.some.inj e) | exact fun e => Nat.ne_of_gt HNE.out (Option.some.inj e)))
            have HL7 := Lib.hid hz
            have HB := Lib.hid (HB.out.grown hg HB.out.size (fun q e => (Option.some.inj e) ▸ HGL7.out))
            clear hz hg
            have hHeld := HTS.out _ (off_below HB.out)
            refine hK.out _ _ (HTS.out _ (off_below HB.out)) ?_
            clear hK K
            (try simp only [Act.put]); (try simp only [List.setIfInBounds_toArray]); (try simp only [List.set_cons_succ]); (try simp only [List.set_cons_zero])
            refine held_step (i := 15) rfl (by kernel_rfl) (by rfl) (fun K hK => ?_)
            refine wp_store_blk 26 (.tmp 8) (.tmp 34) rfl _ q2 rfl rfl 26 _ HL8.out (by rw [Hq2.out.len]; kernel_rfl) (by rw [Hq2.out.len]; rfl) Hq2.out.one ?_
            intro wc hz hg
            have Hq1 := Lib.hid (RO.store HL8.out hg Hq1.out)
            have Hq2 := Lib.hid (RO.store HL8.out hg Hq2.out)
            have HL7 := Lib.hid (HL7.out.grown hg (by first | exact fun e => Nat.ne_of_lt HNE.out (Option.some.inj e) | exact fun e => Nat.ne_of_gt HNE.out (Option.some.inj e)))
            have HL8 := Lib.hid hz
            have HB := Lib.hid (HB.out.grown hg HB.out.size (fun q e => (Option.some.inj e) ▸ HGL8.out))
            clear hz hg
            have hHeld := HTS.out _ (off_below HB.out)
            refine hK.out _ _ (HTS.out _ (off_below HB.out)) ?_
            clear hK K
            (try simp only [Act.put]); (try simp only [List.setIfInBounds_toArray]); (try simp only [List.set_cons_succ]); (try simp only [List.set_cons_zero])
            refine wpAnyH_done (by kernel_rfl) ?_ _
            go_wp2
            go_meet
            case rel => exact ⟨_, _, q1, q2, rfl, rfl, HB.out, HL7.out, HL8.out, Hq1.out, Hq2.out⟩
        · skip
          go_simp
          try (first | have HNE := Lib.hid (blk_lt2 HL7.out) | have HNE := Lib.hid HL7.out.lt)
          try have HL7 := Lib.hid (HL7.out.alloc (.cells emptyC.toArray 26))
          first | have HL8 := Lib.hid (blk_new_at2 HB.out emptyC 26) | have HL8 := Lib.hid (blk_new_at HB.out emptyC 26)
          first | have HGL8 := Lib.hid (size_at2 HB.out) | have HGL8 := Lib.hid HB.out.size
          try have Hq1 := Lib.hid (Hq1.out.below ((Below.refl _ _).alloc (Nat.le_refl _) (.cells emptyC.toArray 26)))
          try have Hq2 := Lib.hid (Hq2.out.below ((Below.refl _ _).alloc (Nat.le_refl _) (.cells emptyC.toArray 26)))
          have HB := Lib.hid (HB.out.alloc HB.out.size (.cells emptyC.toArray 26))
          have hHeld := HTS.out _ (off_below HB.out)
          refine hK.out _ _ (HTS.out _ (off_below HB.out)) ?_
          clear hK K
          (try simp only [Act.put]); (try simp only [List.setIfInBounds_toArray]); (try simp only [List.set_cons_succ]); (try simp only [List.set_cons_zero])
          refine held_step (i := 5) rfl (by kernel_rfl) (by rfl) (fun K hK => ?_)
          go_simp
          refine (IHa.out key ca _ (HT.out.2.1.below HB.out) HGA.out.1 (by have := HM.out; omega)).mono ?_
          rintro e wc ⟨q1, rfl, hn, hb⟩
          try have HL7 := Lib.hid (HL7.out.below hb)
          try have HL8 := Lib.hid (HL8.out.below hb)
          try have Hq2 := Lib.hid (Hq2.out.below hb)
          have Hq1 := Lib.hid hn
          have HB := Lib.hid (below_then HB.out HB.out.size hb)
          clear hn hb
          go_wp2_with fail
          have hHeld := HTS.out _ (off_below HB.out)
          refine hK.out _ _ (HTS.out _ (off_below HB.out)) ?_
          clear hK K
          try simp only [Act.put, List.setIfInBounds_toArray, List.set_cons_zero, List.set_cons_succ]
          refine held_step (i := 11) rfl (by kernel_rfl) (by rfl) (fun K hK => ?_)
          go_simp
          refine (IHb.out key cb _ (HT.out.2.2.1.below HB.out) HGA.out.2 (by have := HM.out; omega)).mono ?_
          rintro e wc ⟨q2, rfl, hn, hb⟩
          try have HL7 := Lib.hid (HL7.out.below hb)
          try have HL8 := Lib.hid (HL8.out.below hb)
          try have Hq1 := Lib.hid (Hq1.out.below hb)
          have Hq2 := Lib.hid hn
          have HB := Lib.hid (below_then HB.out HB.out.size hb)
          clear hn hb
          go_wp2_with fail
          have hHeld := HTS.out _ (off_below HB.out)
          refine hK.out _ _ (HTS.out _ (off_below HB.out)) ?_
          clear hK K
          try simp only [Act.put, List.setIfInBounds_toArray, List.set_cons_zero, List.set_cons_succ]
          refine held_step (i := 14) rfl (by kernel_rfl) (by rfl) (fun K hK => ?_)
          refine wp_store_blk 26 (.tmp 7) (.tmp 28) rfl _ q1 rfl rfl 26 _ HL7.out (by rw [Hq1.out.len]; kernel_rfl) (by rw [Hq1.out.len]; rfl) Hq1.out.one ?_
          intro wc hz hg
          have Hq1 := Lib.hid (RO.store HL7.out hg Hq1.out)
          have Hq2 := Lib.hid (RO.store HL7.out hg Hq2.out)
          have HL8 := Lib.hid (HL8.out.grown hg (by first | exact fun e => Nat.ne_of_lt HNE.out (Option.some.inj e) | exact fun e => Nat.ne_of_gt HNE.out (Option.some.inj e)))
          have HL7 := Lib.hid hz
          have HB := Lib.hid (HB.out.grown hg HB.out.size (fun q e => (Option.some.inj e) ▸ HGL7.out))
          clear hz hg
          have hHeld := HTS.out _ (off_below HB.out)
          refine hK.out _ _ (HTS.out _ (off_below HB.out)) ?_
          clear hK K
          (try simp only [Act.put]); (try simp only [List.setIfInBounds_toArray]); (try simp only [List.set_cons_succ]); (try simp only [List.set_cons_zero])
          refine held_step (i := 15) rfl (by kernel_rfl) (by rfl) (fun K hK => ?_)
          refine wp_store_blk 26 (.tmp 8) (.tmp 34) rfl _ q2 rfl rfl 26 _ HL8.out (by rw [Hq2.out.len]; kernel_rfl) (by rw [Hq2.out.len]; rfl) Hq2.out.one ?_
          intro wc hz hg
          have Hq1 := Lib.hid (RO.store HL8.out hg Hq1.out)
          have Hq2 := Lib.hid (RO.store HL8.out hg Hq2.out)
          have HL7 := Lib.hid (HL7.out.grown hg (by first | exact fun e => Nat.ne_of_lt HNE.out (Option.some.inj e) | exact fun e => Nat.ne_of_gt HNE.out (Option.some.inj e)))
          have HL8 := Lib.hid hz
          have HB := Lib.hid (HB.out.grown hg HB.out.size (fun q e => (Option.some.inj e) ▸ HGL8.out))
          clear hz hg
          have hHeld := HTS.out _ (off_below HB.out)
          refine hK.out _ _ (HTS.out _ (off_below HB.out)) ?_
          clear hK K
          (try simp only [Act.put]); (try simp only [List.setIfInBounds_toArray]); (try simp only [List.set_cons_succ]); (try simp only [List.set_cons_zero])
          refine wpAnyH_done (by kernel_rfl) ?_ _
          go_wp2
          go_meet
          case rel => exact ⟨_, _, q1, q2, rfl, rfl, HB.out, HL7.out, HL8.out, Hq1.out, Hq2.out⟩
      · skip
        go_simp
        try (first | have HNE := Lib.hid (blk_lt2 HL7.out) | have HNE := Lib.hid HL7.out.lt)
        try have HL7 := Lib.hid (HL7.out.alloc (.cells emptyC.toArray 26))
        first | have HL8 := Lib.hid (blk_new_at2 HB.out emptyC 26) | have HL8 := Lib.hid (blk_new_at HB.out emptyC 26)
        first | have HGL8 := Lib.hid (size_at2 HB.out) | have HGL8 := Lib.hid HB.out.size
        try have Hq1 := Lib.hid (Hq1.out.below ((Below.refl _ _).alloc (Nat.le_refl _) (.cells emptyC.toArray 26)))
        try have Hq2 := Lib.hid (Hq2.out.below ((Below.refl _ _).alloc (Nat.le_refl _) (.cells emptyC.toArray 26)))
        have HB := Lib.hid (HB.out.alloc HB.out.size (.cells emptyC.toArray 26))
        have hHeld := HTS.out _ (off_below HB.out)
        refine hK.out _ _ (HTS.out _ (off_below HB.out)) ?_
        clear hK K
        (try simp only [Act.put]); (try simp only [List.setIfInBounds_toArray]); (try simp only [List.set_cons_succ]); (try simp only [List.set_cons_zero])
        refine held_two (i := 5) (j := 12) rfl rfl (by kernel_rfl) (by rfl) (by rfl) (fun K hK => ?_) (fun K hK => ?_)
        · skip
          go_simp
          refine (IHa.out key ca _ (HT.out.2.1.below HB.out) HGA.out.1 (by have := HM.out; omega)).mono ?_
          rintro e wc ⟨q1, rfl, hn, hb⟩
          try have HL7 := Lib.hid (HL7.out.below hb)
          try have HL8 := Lib.hid (HL8.out.below hb)
          try have Hq2 := Lib.hid (Hq2.out.below hb)
          have Hq1 := Lib.hid hn
          have HB := Lib.hid (below_then HB.out HB.out.size hb)
          clear hn hb
          go_wp2_with fail
          have hHeld := HTS.out _ (off_below HB.out)
          refine hK.out _ _ (HTS.out _ (off_below HB.out)) ?_
          clear hK K
          try simp only [Act.put, List.setIfInBounds_toArray, List.set_cons_zero, List.set_cons_succ]
          refine held_two (i := 11) (j := 12) rfl rfl (by kernel_rfl) (by rfl) (by rfl) (fun K hK => ?_) (fun K hK => ?_)
          · skip
            go_simp
            refine (IHb.out key cb _ (HT.out.2.2.1.below HB.out) HGA.out.2 (by have := HM.out; omega)).mono ?_
            rintro e wc ⟨q2, rfl, hn, hb⟩
            try have HL7 := Lib.hid (HL7.out.below hb)
            try have HL8 := Lib.hid (HL8.out.below hb)
            try have Hq1 := Lib.hid (Hq1.out.below hb)
            have Hq2 := Lib.hid hn
            have HB := Lib.hid (below_then HB.out HB.out.size hb)
            clear hn hb
            go_wp2_with fail
            have hHeld := HTS.out _ (off_below HB.out)
            refine hK.out _ _ (HTS.out _ (off_below HB.out)) ?_
            clear hK K
            try simp only [Act.put, List.setIfInBounds_toArray, List.set_cons_zero, List.set_cons_succ]
            refine held_step (i := 12) rfl (by kernel_rfl) (by rfl) (fun K hK => ?_)
            go_simp
            try (first | have HNE := Lib.hid (blk_lt2 HL8.out) | have HNE := Lib.hid HL8.out.lt)
            try have HL8 := Lib.hid (HL8.out.alloc (.cells emptyC.toArray 26))
            first | have HL7 := Lib.hid (blk_new_at2 HB.out emptyC 26) | have HL7 := Lib.hid (blk_new_at HB.out emptyC 26)
            first | have HGL7 := Lib.hid (size_at2 HB.out) | have HGL7 := Lib.hid HB.out.size
            try have Hq1 := Lib.hid (Hq1.out.below ((Below.refl _ _).alloc (Nat.le_refl _) (.cells emptyC.toArray 26)))
            try have Hq2 := Lib.hid (Hq2.out.below ((Below.refl _ _).alloc (Nat.le_refl _) (.cells emptyC.toArray 26)))
            have HB := Lib.hid (HB.out.alloc HB.out.size (.cells emptyC.toArray 26))
            have hHeld := HTS.out _ (off_below HB.out)
            refine hK.out _ _ (HTS.out _ (off_below HB.out)) ?_
            clear hK K
            (try simp only [Act.put]); (try simp only [List.setIfInBounds_toArray]); (try simp only [List.set_cons_succ]); (try simp only [List.set_cons_zero])
            refine held_step (i := 14) rfl (by kernel_rfl) (by rfl) (fun K hK => ?_)
            refine wp_store_blk 26 (.tmp 7) (.tmp 28) rfl _ q1 rfl rfl 26 _ HL7.out (by rw [Hq1.out.len]; kernel_rfl) (by rw [Hq1.out.len]; rfl) Hq1.out.one ?_
            intro wc hz hg
            have Hq1 := Lib.hid (RO.store HL7.out hg Hq1.out)
            have Hq2 := Lib.hid (RO.store HL7.out hg Hq2.out)
            have HL8 := Lib.hid (HL8.out.grown hg (by first | exact fun e => Nat.ne_of_lt HNE.out (Option.some.inj e) | exact fun e => Nat.ne_of_gt HNE.out (Option.some.inj e)))
            have HL7 := Lib.hid hz
            have HB := Lib.hid (HB.out.grown hg HB.out.size (fun q e => (Option.some.inj e) ▸ HGL7.out))
            clear hz hg
            have hHeld := HTS.out _ (off_below HB.out)
            refine hK.out _ _ (HTS.out _ (off_below HB.out)) ?_
            clear hK K
            (try simp only [Act.put]); (try simp only [List.setIfInBounds_toArray]); (try simp only [List.set_cons_succ]); (try simp only [List.set_cons_zero])
            refine held_step (i := 15) rfl (by kernel_rfl) (by rfl) (fun K hK => ?_)
            refine wp_store_blk 26 (.tmp 8) (.tmp 34) rfl _ q2 rfl rfl 26 _ HL8.out (by rw [Hq2.out.len]; kernel_rfl) (by rw [Hq2.out.len]; rfl) Hq2.out.one ?_
            intro wc hz hg
            have Hq1 := Lib.hid (RO.store HL8.out hg Hq1.out)
            have Hq2 := Lib.hid (RO.store HL8.out hg Hq2.out)
            have HL7 := Lib.hid (HL7.out.grown hg (by first | exact fun e => Nat.ne_of_lt HNE.out (Option.some.inj e) | exact fun e => Nat.ne_of_gt HNE.out (Option.some.inj e)))
            have HL8 := Lib.hid hz
            have HB := Lib.hid (HB.out.grown hg HB.out.size (fun q e => (Option.some.inj e) ▸ HGL8.out))
            clear hz hg
            have hHeld := HTS.out _ (off_below HB.out)
            refine hK.out _ _ (HTS.out _ (off_below HB.out)) ?_
            clear hK K
            (try simp only [Act.put]); (try simp only [List.setIfInBounds_toArray]); (try simp only [List.set_cons_succ]); (try simp only [List.set_cons_zero])
            refine wpAnyH_done (by kernel_rfl) ?_ _
            go_wp2
            go_meet
            case rel => exact ⟨_, _, q1, q2, rfl, rfl, HB.out, HL7.out, HL8.out, Hq1.out, Hq2.out⟩
          · skip
            go_simp
            try (first | have HNE := Lib.hid (blk_lt2 HL8.out) | have HNE := Lib.hid HL8.out.lt)
            try have HL8 := Lib.hid (HL8.out.alloc (.cells emptyC.toArray 26))
            first | have HL7 := Lib.hid (blk_new_at2 HB.out emptyC 26) | have HL7 := Lib.hid (blk_new_at HB.out emptyC 26)
            first | have HGL7 := Lib.hid (size_at2 HB.out) | have HGL7 := Lib.hid HB.out.size
            try have Hq1 := Lib.hid (Hq1.out.below ((Below.refl _ _).alloc (Nat.le_refl _) (.cells emptyC.toArray 26)))
            try have Hq2 := Lib.hid (Hq2.out.below ((Below.refl _ _).alloc (Nat.le_refl _) (.cells emptyC.toArray 26)))
            have HB := Lib.hid (HB.out.alloc HB.out.size (.cells emptyC.toArray 26))
            have hHeld := HTS.out _ (off_below HB.out)
            refine hK.out _ _ (HTS.out _ (off_below HB.out)) ?_
            clear hK K
            (try simp only [Act.put]); (try simp only [List.setIfInBounds_toArray]); (try simp only [List.set_cons_succ]); (try simp only [List.set_cons_zero])
            refine held_step (i := 11) rfl (by kernel_rfl) (by rfl) (fun K hK => ?_)
            go_simp
            refine (IHb.out key cb _ (HT.out.2.2.1.below HB.out) HGA.out.2 (by have := HM.out; omega)).mono ?_
            rintro e wc ⟨q2, rfl, hn, hb⟩
            try have HL7 := Lib.hid (HL7.out.below hb)
            try have HL8 := Lib.hid (HL8.out.below hb)
            try have Hq1 := Lib.hid (Hq1.out.below hb)
            have Hq2 := Lib.hid hn
            have HB := Lib.hid (below_then HB.out HB.out.size hb)
            clear hn hb
            go_wp2_with fail
            have hHeld := HTS.out _ (off_below HB.out)
            refine hK.out _ _ (HTS.out _ (off_below HB.out)) ?_
            clear hK K
            try simp only [Act.put, List.setIfInBounds_toArray, List.set_cons_zero, List.set_cons_succ]
            refine held_step (i := 14) rfl (by kernel_rfl) (by rfl) (fun K hK => ?_)
            refine wp_store_blk 26 (.tmp 7) (.tmp 28) rfl _ q1 rfl rfl 26 _ HL7.out (by rw [Hq1.out.len]; kernel_rfl) (by rw [Hq1.out.len]; rfl) Hq1.out.one ?_
            intro wc hz hg
            have Hq1 := Lib.hid (RO.store HL7.out hg Hq1.out)
            have Hq2 := Lib.hid (RO.store HL7.out hg Hq2.out)
            have HL8 := Lib.hid (HL8.out.grown hg (by first | exact fun e => Nat.ne_of_lt HNE.out (Option.some.inj e) | exact fun e => Nat.ne_of_gt HNE.out (Option.some.inj e)))
            have HL7 := Lib.hid hz
            have HB := Lib.hid (HB.out.grown hg HB.out.size (fun q e => (Option.some.inj e) ▸ HGL7.out))
            clear hz hg
            have hHeld := HTS.out _ (off_below HB.out)
            refine hK.out _ _ (HTS.out _ (off_below HB.out)) ?_
            clear hK K
            (try simp only [Act.put]); (try simp only [List.setIfInBounds_toArray]); (try simp only [List.set_cons_succ]); (try simp only [List.set_cons_zero])
            refine held_step (i := 15) rfl (by kernel_rfl) (by rfl) (fun K hK => ?_)
            refine wp_store_blk 26 (.tmp 8) (.tmp 34) rfl _ q2 rfl rfl 26 _ HL8.out (by rw [Hq2.out.len]; kernel_rfl) (by rw [Hq2.out.len]; rfl) Hq2.out.one ?_
            intro wc hz hg
            have Hq1 := Lib.hid (RO.store HL8.out hg Hq1.out)
            have Hq2 := Lib.hid (RO.store HL8.out hg Hq2.out)
            have HL7 := Lib.hid (HL7.out.grown hg (by first | exact fun e => Nat.ne_of_lt HNE.out (Option.some.inj e) | exact fun e => Nat.ne_of_gt HNE.out (Option.some.inj e)))
            have HL8 := Lib.hid hz
            have HB := Lib.hid (HB.out.grown hg HB.out.size (fun q e => (Option.some.inj e) ▸ HGL8.out))
            clear hz hg
            have hHeld := HTS.out _ (off_below HB.out)
            refine hK.out _ _ (HTS.out _ (off_below HB.out)) ?_
            clear hK K
            (try simp only [Act.put]); (try simp only [List.setIfInBounds_toArray]); (try simp only [List.set_cons_succ]); (try simp only [List.set_cons_zero])
            refine wpAnyH_done (by kernel_rfl) ?_ _
            go_wp2
            go_meet
            case rel => exact ⟨_, _, q1, q2, rfl, rfl, HB.out, HL7.out, HL8.out, Hq1.out, Hq2.out⟩
        · skip
          go_simp
          try (first | have HNE := Lib.hid (blk_lt2 HL8.out) | have HNE := Lib.hid HL8.out.lt)
          try have HL8 := Lib.hid (HL8.out.alloc (.cells emptyC.toArray 26))
          first | have HL7 := Lib.hid (blk_new_at2 HB.out emptyC 26) | have HL7 := Lib.hid (blk_new_at HB.out emptyC 26)
          first | have HGL7 := Lib.hid (size_at2 HB.out) | have HGL7 := Lib.hid HB.out.size
          try have Hq1 := Lib.hid (Hq1.out.below ((Below.refl _ _).alloc (Nat.le_refl _) (.cells emptyC.toArray 26)))
          try have Hq2 := Lib.hid (Hq2.out.below ((Below.refl _ _).alloc (Nat.le_refl _) (.cells emptyC.toArray 26)))
          have HB := Lib.hid (HB.out.alloc HB.out.size (.cells emptyC.toArray 26))
          have hHeld := HTS.out _ (off_below HB.out)
          refine hK.out _ _ (HTS.out _ (off_below HB.out)) ?_
          clear hK K
          (try simp only [Act.put]); (try simp only [List.setIfInBounds_toArray]); (try simp only [List.set_cons_succ]); (try simp only [List.set_cons_zero])
          refine held_step (i := 5) rfl (by kernel_rfl) (by rfl) (fun K hK => ?_)
          go_simp
          refine (IHa.out key ca _ (HT.out.2.1.below HB.out) HGA.out.1 (by have := HM.out; omega)).mono ?_
          rintro e wc ⟨q1, rfl, hn, hb⟩
          try have HL7 := Lib.hid (HL7.out.below hb)
          try have HL8 := Lib.hid (HL8.out.below hb)
          try have Hq2 := Lib.hid (Hq2.out.below hb)
          have Hq1 := Lib.hid hn
          have HB := Lib.hid (below_then HB.out HB.out.size hb)
          clear hn hb
          go_wp2_with fail
          have hHeld := HTS.out _ (off_below HB.out)
          refine hK.out _ _ (HTS.out _ (off_below HB.out)) ?_
          clear hK K
          try simp only [Act.put, List.setIfInBounds_toArray, List.set_cons_zero, List.set_cons_succ]
          refine held_step (i := 11) rfl (by kernel_rfl) (by rfl) (fun K hK => ?_)
          go_simp
          refine (IHb.out key cb _ (HT.out.2.2.1.below HB.out) HGA.out.2 (by have := HM.out; omega)).mono ?_
          rintro e wc ⟨q2, rfl, hn, hb⟩
          try have HL7 := Lib.hid (HL7.out.below hb)
          try have HL8 := Lib.hid (HL8.out.below hb)
          try have Hq1 := Lib.hid (Hq1.out.below hb)
          have Hq2 := Lib.hid hn
          have HB := Lib.hid (below_then HB.out HB.out.size hb)
          clear hn hb
          go_wp2_with fail
          have hHeld := HTS.out _ (off_below HB.out)
          refine hK.out _ _ (HTS.out _ (off_below HB.out)) ?_
          clear hK K
          try simp only [Act.put, List.setIfInBounds_toArray, List.set_cons_zero, List.set_cons_succ]
          refine held_step (i := 14) rfl (by kernel_rfl) (by rfl) (fun K hK => ?_)
          refine wp_store_blk 26 (.tmp 7) (.tmp 28) rfl _ q1 rfl rfl 26 _ HL7.out (by rw [Hq1.out.len]; kernel_rfl) (by rw [Hq1.out.len]; rfl) Hq1.out.one ?_
          intro wc hz hg
          have Hq1 := Lib.hid (RO.store HL7.out hg Hq1.out)
          have Hq2 := Lib.hid (RO.store HL7.out hg Hq2.out)
          have HL8 := Lib.hid (HL8.out.grown hg (by first | exact fun e => Nat.ne_of_lt HNE.out (Option.some.inj e) | exact fun e => Nat.ne_of_gt HNE.out (Option.some.inj e)))
          have HL7 := Lib.hid hz
          have HB := Lib.hid (HB.out.grown hg HB.out.size (fun q e => (Option.some.inj e) ▸ HGL7.out))
          clear hz hg
          have hHeld := HTS.out _ (off_below HB.out)
          refine hK.out _ _ (HTS.out _ (off_below HB.out)) ?_
          clear hK K
          (try simp only [Act.put]); (try simp only [List.setIfInBounds_toArray]); (try simp only [List.set_cons_succ]); (try simp only [List.set_cons_zero])
          refine held_step (i := 15) rfl (by kernel_rfl) (by rfl) (fun K hK => ?_)
          refine wp_store_blk 26 (.tmp 8) (.tmp 34) rfl _ q2 rfl rfl 26 _ HL8.out (by rw [Hq2.out.len]; kernel_rfl) (by rw [Hq2.out.len]; rfl) Hq2.out.one ?_
          intro wc hz hg
          have Hq1 := Lib.hid (RO.store HL8.out hg Hq1.out)
          have Hq2 := Lib.hid (RO.store HL8.out hg Hq2.out)
          have HL7 := Lib.hid (HL7.out.grown hg (by first | exact fun e => Nat.ne_of_lt HNE.out (Option.some.inj e) | exact fun e => Nat.ne_of_gt HNE.out (Option.some.inj e)))
          have HL8 := Lib.hid hz
          have HB := Lib.hid (HB.out.grown hg HB.out.size (fun q e => (Option.some.inj e) ▸ HGL8.out))
          clear hz hg
          have hHeld := HTS.out _ (off_below HB.out)
          refine hK.out _ _ (HTS.out _ (off_below HB.out)) ?_
          clear hK K
          (try simp only [Act.put]); (try simp only [List.setIfInBounds_toArray]); (try simp only [List.set_cons_succ]); (try simp only [List.set_cons_zero])
          refine wpAnyH_done (by kernel_rfl) ?_ _
          go_wp2
          go_meet
          case rel => exact ⟨_, _, q1, q2, rfl, rfl, HB.out, HL7.out, HL8.out, Hq1.out, Hq2.out⟩
    case rest =>
      obtain ⟨g7, g8, c7, c8, rfl, rfl, hb, h7, h8, r7, r8⟩ := hcut
      have l7 := r7.len
      have l8 := r8.len
      have e7 := h7.cellD 0 _ r7.is
      have e8 := h8.cellD 0 _ r8.is
      have HL7 := Lib.hid (run_load_agg (P := Tryd.prog) Tryd.underlying26 rfl (by kernel_rfl) wc ⟨g7, 0, none⟩ c7 l7 (fun j u hj => by rw [add_plain, Nat.zero_add]; exact h7.cellD j u hj))
      have HL8 := Lib.hid (run_load_agg (P := Tryd.prog) Tryd.underlying26 rfl (by kernel_rfl) wc ⟨g8, 0, none⟩ c8 l8 (fun j u hj => by rw [add_plain, Nat.zero_add]; exact h8.cellD j u hj))
      have HX := Lib.hid (HX.out.below hb)
      have HW0 := Lib.hid (below_then HW0.out HW0.out.size hb)
      have HLN := Lib.hid (And.intro l7 l8)
      have HR := Lib.hid (And.intro r7 r8)
      clear hb h7 h8 r7 r8 l7 l8
      rcases hda : dropO key (some a) with _ | x
      · rw [hda] at e7
        have HDA := Lib.hid hda
        clear hda
        go_wp2_with (first
          | (refine wpList_load rfl (.tmp 8) rfl ⟨g8, 0, none⟩ (.agg c8.toArray) rfl HL8.out ?_)
          | (refine wpList_store_blk rfl 26 (.tmp 4) _ rfl (xa + 1) c8 rfl rfl 26 _ HX.out (by rw [HLN.out.2]; kernel_rfl) (by rw [HLN.out.2]; rfl) HR.out.2.one ?_; intro w9 hz hg))
        refine bodyPost_ret (results_blk rfl _ _ (xa + 1) 26 c8 _ rfl hz uT rfl (by rw [HLN.out.2]; kernel_rfl)) rfl ⟨_, rfl, ?_, ?_⟩
        · rw [HDA.out]
          exact RO.store HX.out hg HR.out.2
        · exact HW0.out.grown hg HW0.out.size (fun q e => by injection e with e; have := HXA.out; omega)
      · rw [hda] at e7
        rcases hdb : dropO key (some b) with _ | y
        · rw [hdb] at e8
          have HDA := Lib.hid (And.intro hda hdb)
          clear hda hdb
          go_wp2_with (first
            | (refine wpList_load rfl (.tmp 7) rfl ⟨g7, 0, none⟩ (.agg c7.toArray) rfl HL7.out ?_)
            | (refine wpList_store_blk rfl 26 (.tmp 4) _ rfl (xa + 1) c7 rfl rfl 26 _ HX.out (by rw [HLN.out.1]; kernel_rfl) (by rw [HLN.out.1]; rfl) HR.out.1.one ?_; intro w9 hz hg))
          refine bodyPost_ret (results_blk rfl _ _ (xa + 1) 26 c7 _ rfl hz uT rfl (by rw [HLN.out.1]; kernel_rfl)) rfl ⟨_, rfl, ?_, ?_⟩
          · have := RO.store HX.out hg HR.out.1
            rw [HDA.out.1] at this
            rw [HDA.out.1, HDA.out.2]
            exact this
          · exact HW0.out.grown hg HW0.out.size (fun q e => by injection e with e; have := HXA.out; omega)
        · rw [hdb] at e8
          have HDA := Lib.hid (And.intro hda (And.intro hdb (And.intro (show RC wc x c7 by have h := HR.out.1; rw [hda] at h; exact h) (show RC wc y c8 by have h := HR.out.2; rw [hdb] at h; exact h))))
          clear hda hdb
          go_wp2_with (first
            | (refine wpList_load rfl (.tmp 7) rfl ⟨g7, 0, none⟩ (.agg c7.toArray) rfl HL7.out ?_)
            | (refine wpList_load rfl (.tmp 8) rfl ⟨g8, 0, none⟩ (.agg c8.toArray) rfl HL8.out ?_))
          refine (rright_any x y c7 c8 _ HDA.out.2.2.1 HDA.out.2.2.2 (HBA.out x y HDA.out.1 HDA.out.2.1).1 (HBA.out x y HDA.out.1 HDA.out.2.1).2.1 (HBA.out x y HDA.out.1 HDA.out.2.1).2.2).mono ?_
          rintro e we ⟨cf, rfl, hn, hb⟩
          have HF := Lib.hid hn
          have HB := Lib.hid hb
          clear hn hb e7 e8
          go_wp2_with (refine wpList_store_blk rfl 26 (.tmp 4) _ rfl (xa + 1) cf rfl rfl 26 _ (HX.out.below HB.out) (by rw [HF.out.len]; kernel_rfl) (by rw [HF.out.len]; rfl) HF.out.one ?_; intro w9 hz hg)
          refine bodyPost_ret (results_blk rfl _ _ (xa + 1) 26 cf _ rfl hz uT rfl (by rw [HF.out.len]; kernel_rfl)) rfl ⟨_, rfl, ?_, ?_⟩
          · rw [HDA.out.1, HDA.out.2.1]
            exact RC.store (HX.out.below HB.out) hg HF.out
          · exact (below_then HW0.out HW0.out.size HB.out).grown hg (below_then HW0.out HW0.out.size HB.out).size (fun q e => by injection e with e; have := HXA.out; omega)
theorem rdrop_tree : ∀ t : Av, RDrop t
  | .leaf k v => rdrop_leaf k v
  | .node a b => rdrop_node a b (Lib.hid (rdrop_tree a)) (Lib.hid (rdrop_tree b))
theorem rdrop_any (t : Option Av) (key : Str) (cs : List Value) (w : World) (h : RO w t cs) (hgd : Isth.Good t) (hm : manyO t ≤ 900000) :
    Calls Tryd.prog 65 #[.agg cs.toArray, S8 key] w fun e w' => ∃ cs', e = .returned (.agg cs'.toArray) ∧ RO w' (dropO key t) cs' ∧ Below w.heap.size w w' := by
  cases t with
  | some t => exact rdrop_tree t key cs w h hgd hm
  | none => exact rdrop_no none key cs w h hgd hm rfl
end Go.Proofs.YtdekealpachhmaaDoor
