/- Layer 7's reference: a tree in memory; Height, Pairs by their contracts. -/
import Derived.Test.YtdekealpachhmaaDoorAvAt2
namespace Go.Proofs.YtdekealpachhmaaDoor
open Go Go.RowKit Go.Isth

theorem tTr : SlT Tryd.prog 24 26 (.agg #[.bool false, S8 [], S8 [], .slice none 0 0]) 4 64 := ⟨Tryd.underlying24, by kernel_rfl, rfl, by decide⟩
theorem tPr : SlT Tryd.prog 22 38 (.agg #[S8 [], S8 []]) 2 32 := ⟨Tryd.underlying22, by kernel_rfl, rfl, by decide⟩
/-- The cells of a reference's tree. -/
def RC (w : World) : Av → List Value → Prop
  | .leaf k v, cs => cs = [.bool true, S8 k, S8 v, .slice none 0 0]
  | .node a b, cs => ∃ g ca cb, cs = [.bool true, S8 [], S8 [], .slice (some ⟨g, 0, none⟩) 2 2] ∧ Blk w g 26 (ca ++ cb) ∧ RC w a ca ∧ RC w b cb
def emptyC : List Value := [.bool false, S8 [], S8 [], .slice none 0 0]
def RO (w : World) : Option Av → List Value → Prop
  | none, cs => cs = emptyC
  | some t, cs => RC w t cs
theorem RC.len {w : World} {t : Av} {cs : List Value} (h : RC w t cs) : cs.length = 4 := by
  cases t with
  | leaf => obtain rfl := h; rfl
  | node => obtain ⟨_, _, _, rfl, _⟩ := h; rfl
theorem RC.one {w : World} {t : Av} {cs : List Value} (h : RC w t cs) : ∀ u ∈ cs, u.oneCell' = true := by
  cases t with
  | leaf =>
    obtain rfl := h
    intro u hu
    simp only [List.mem_cons, List.not_mem_nil, or_false] at hu
    rcases hu with rfl | rfl | rfl | rfl <;> rfl
  | node =>
    obtain ⟨_, _, _, rfl, _⟩ := h
    intro u hu
    simp only [List.mem_cons, List.not_mem_nil, or_false] at hu
    rcases hu with rfl | rfl | rfl | rfl <;> rfl
theorem RC.below {w w' : World} (hb : Below w.heap.size w w') : ∀ {t : Av} {cs : List Value}, RC w t cs → RC w' t cs
  | .leaf _ _, _, h => h
  | .node _ _, _, h => by
    obtain ⟨g, ca, cb, e, h1, h2, h3⟩ := h
    exact ⟨g, ca, cb, e, h1.below hb, h2.below hb, h3.below hb⟩
theorem RO.below {w w' : World} (hb : Below w.heap.size w w') {t : Option Av} {cs : List Value} (h : RO w t cs) : RO w' t cs := by
  cases t with
  | none => exact h
  | some t => exact RC.below hb h
theorem RO.len {w : World} {t : Option Av} {cs : List Value} (h : RO w t cs) : cs.length = 4 := by
  cases t with
  | none => obtain rfl := h; rfl
  | some t => exact RC.len h
theorem RO.one {w : World} {t : Option Av} {cs : List Value} (h : RO w t cs) : ∀ u ∈ cs, u.oneCell' = true := by
  cases t with
  | none =>
    obtain rfl := h
    intro u hu
    simp only [emptyC, List.mem_cons, List.not_mem_nil, or_false] at hu
    rcases hu with rfl | rfl | rfl | rfl <;> rfl
  | some t => exact RC.one h
/-- A node's parts as they are read. -/
theorem rnode {w : World} {a b : Av} {cs : List Value} (h : RC w (.node a b) cs) : ∃ g ca cb, cs = [.bool true, S8 [], S8 [], .slice (some ⟨g, 0, none⟩) 2 2] ∧ w.rangeAt g 0 ca ∧ w.rangeAt g 4 cb ∧ RC w a ca ∧ RC w b cb := by
  obtain ⟨g, ca, cb, e, h1, h2, h3⟩ := h
  refine ⟨g, ca, cb, e, fun j u hu => ?_, fun j u hu => ?_, h2, h3⟩
  · rw [Nat.zero_add]
    exact Blk.cellD h1 j u (by rw [List.getElem?_append_left (List.getElem?_eq_some_iff.1 hu).1]; exact hu)
  · exact Blk.cellD h1 (4 + j) u (by rw [List.getElem?_append_right (by rw [h2.len]; omega), h2.len, Nat.add_sub_cancel_left]; exact hu)
theorem range_below {w w' : World} {b o : Nat} {cs : List Value} (h : w.rangeAt b o cs) (hb : Below w.heap.size w w') : w'.rangeAt b o cs := fun j u hu => cell_below (h j u hu) hb
def pairsC (l : List (Str × Str)) : List Value := l.flatMap pairC
theorem pairsC_append (l m : List (Str × Str)) : pairsC (l ++ m) = pairsC l ++ pairsC m := by simp [pairsC]
theorem pairsC_len : ∀ l : List (Str × Str), (pairsC l).length = l.length * 2
  | [] => rfl
  | x :: l => by have := pairsC_len l; simp only [pairsC, List.flatMap_cons, List.length_append, List.length_cons] at *; simp only [pairC, List.length_cons, List.length_nil]; omega
theorem pairC_one (x : Str × Str) : ∀ u ∈ pairC x, u.oneCell' = true := by
  intro u hu
  simp only [pairC, List.mem_cons, List.not_mem_nil, or_false] at hu
  rcases hu with rfl | rfl <;> rfl
theorem pairsC_one (l : List (Str × Str)) : ∀ u ∈ pairsC l, u.oneCell' = true := by
  intro u hu
  obtain ⟨x, _, hu⟩ := List.mem_flatMap.1 hu
  exact pairC_one x u hu
def RHeight (t : Av) : Prop := ∀ (cs : List Value) (w : World), RC w t cs → t.many ≤ 900000 →
    Calls Tryd.prog 38 #[.agg cs.toArray] w fun e w' => e = .returned (.int .i64 (t.height : Nat)) ∧ Below w.heap.size w w'
set_option maxRecDepth 100000 in
set_option maxHeartbeats 1000000 in
theorem rheight_tree : ∀ t : Av, RHeight t
  | .leaf k v => by
    intro cs w h _
    obtain rfl := h
    go_enter Tryd.func38, Tryd.ntmps38
    go_wp2
    go_ret
    exact ⟨rfl, (Below.refl _ _).alloc (Nat.le_refl _) _⟩
  | .node a b => by
    have IHa := Lib.hid (rheight_tree a)
    have IHb := Lib.hid (rheight_tree b)
    intro cs w h hm
    obtain ⟨g, ca, cb, rfl, hra, hrb, ha, hb⟩ := rnode h
    simp only [Av.many] at hm
    have hh1 := a.height_many
    have hh2 := b.height_many
    obtain ⟨mx, hmx⟩ : ∃ n, n = max a.height b.height := ⟨_, rfl⟩
    obtain ⟨hh, hhh⟩ : ∃ n, n = 1 + mx := ⟨_, rfl⟩
    have HW := Lib.hid (And.intro (show IntKind.i64.wrap (1 + (mx : Int)) = ((hh : Nat) : Int) by rw [IntWalk.i64_in (1 + (mx : Int)) ⟨by omega, by omega⟩]; omega) (show (if a.height < b.height then (b.height : Int) else (a.height : Int)) = (mx : Int) by split <;> omega))
    have HE := Lib.hid (show (Av.node a b).height = hh by rw [hhh, hmx]; rfl)
    have ia : (Tryd.prog.info? 26).map (·.size) = some ca.length := by rw [ha.len]; kernel_rfl
    have ib : (Tryd.prog.info? 26).map (·.size) = some cb.length := by rw [hb.len]; kernel_rfl
    have uT := Tryd.underlying26
    obtain ⟨bx, hbx⟩ : ∃ n, n = w.heap.size := ⟨_, rfl⟩
    have hb0 : Below w.heap.size w (w.alloc (.cells [.bool true, S8 [], S8 [], .slice (some ⟨g, 0, none⟩) 2 2].toArray 26)) := (Below.refl _ _).alloc (Nat.le_refl _) _
    have hz0 := Blk_new w [.bool true, S8 [], S8 [], .slice (some ⟨g, 0, none⟩) 2 2] 26
    go_enter Tryd.func38, Tryd.ntmps38
    go_upto_region 1 with fail
    change Code.wp _ _ _ _ (w.alloc (.cells [.bool true, S8 [], S8 [], .slice (some ⟨g, 0, none⟩) 2 2].toArray 26))
    generalize w.alloc (.cells [.bool true, S8 [], S8 [], .slice (some ⟨g, 0, none⟩) 2 2].toArray 26) = w0 at *
    have H0 := Lib.hid (And.intro hb0 hz0)
    rw [← hbx] at hz0
    have e0 : w0.cell? ⟨bx, 0, none⟩ = some (.bool true) := hz0.cellD 0 _ rfl
    have e3 : w0.cell? ⟨bx, 3, none⟩ = some (.slice (some ⟨g, 0, none⟩) 2 2) := hz0.cellD 3 _ rfl
    have HTS : Hid (∀ w', Below w0.heap.size w0 w' → w'.cell? ⟨bx, 3, none⟩ = some (.slice (some ⟨g, 0, none⟩) 2 2) ∧ w'.rangeAt g 0 ca ∧ w'.rangeAt g 4 cb) := Lib.hid fun w' h => ⟨cell_below e3 h, range_below (range_below hra hb0) h, range_below (range_below hrb hb0) h⟩
    have HT := Lib.hid (And.intro (ha.below hb0) (And.intro (hb.below hb0) hm))
    have HB : Hid (Below w0.heap.size w0 (w0.drewN 1)) := Lib.hid (refl_drewN w0 1)
    rw [← hbx]
    clear h hm ha hb hra hrb hh1 hh2 hmx hhh hb0 hz0 hbx
    go_wp2_with fail
    refine wp_region_held_drew (S := (fun w' => w'.cell? ⟨bx, 3, none⟩ = some (.slice (some ⟨g, 0, none⟩) 2 2) ∧ w'.rangeAt g 0 ca ∧ w'.rangeAt g 4 cb)) (by kernel_rfl) ?qs0 (fun hHeld => ?_)
    case qs0 => exact HTS.out _ HB.out
    refine held_take (i := 0) (v := ?q1v) rfl (by kernel_rfl) (by kernel_rfl) (by kernel_rfl) (fun _ _ _ h => h) (by rfl) ?q1y hHeld ?_
    case q1y => ((intro w _hSw; (try dsimp only at _hSw); go_simp); try (with_reducible rfl))
    try simp only [Act.put, List.setIfInBounds_toArray, List.set_cons_zero, List.set_cons_succ]
    refine held_take (i := 1) (v := ?q2v) rfl (by kernel_rfl) (by kernel_rfl) (by kernel_rfl) (fun _ _ _ h => h) (by rfl) ?q2y hHeld ?_
    case q2y => ((intro w _hSw; (try dsimp only at _hSw); go_simp); try (with_reducible rfl))
    try simp only [Act.put, List.setIfInBounds_toArray, List.set_cons_zero, List.set_cons_succ]
    refine held_take (i := 2) (v := ?q3v) rfl (by kernel_rfl) (by kernel_rfl) (by kernel_rfl) (fun _ _ _ h => h) (by rfl) ?q3y hHeld ?_
    case q3y => ((intro w _hSw; (try dsimp only at _hSw); go_simp); try (with_reducible rfl))
    try simp only [Act.put, List.setIfInBounds_toArray, List.set_cons_zero, List.set_cons_succ]
    refine held_row (i := 3) rfl (by kernel_rfl) (by kernel_rfl) (by kernel_rfl) _ _ rfl _ _ rfl ?q4C ?q4D (fun _ _ _ h => h) (by rfl) ?q4a ?q4b ?q4c ?q4d hHeld ?_
    case q4a => (intro w hSw; (try dsimp only at hSw); go_split_ands; assumption)
    case q4b => assumption
    case q4c => rfl
    case q4d => first | assumption | (simp only [*]; done)
    try simp only [Act.put, List.setIfInBounds_toArray, List.set_cons_zero, List.set_cons_succ]
    refine held_take (i := 5) (v := ?q5v) rfl (by kernel_rfl) (by kernel_rfl) (by kernel_rfl) (fun _ _ _ h => h) (by rfl) ?q5y hHeld ?_
    case q5y => ((intro w _hSw; (try dsimp only at _hSw); go_simp); try (with_reducible rfl))
    try simp only [Act.put, List.setIfInBounds_toArray, List.set_cons_zero, List.set_cons_succ]
    refine held_take (i := 6) (v := ?q6v) rfl (by kernel_rfl) (by kernel_rfl) (by kernel_rfl) (fun _ _ _ h => h) (by rfl) ?q6y hHeld ?_
    case q6y => ((intro w _hSw; (try dsimp only at _hSw); go_simp); try (with_reducible rfl))
    try simp only [Act.put, List.setIfInBounds_toArray, List.set_cons_zero, List.set_cons_succ]
    refine held_take (i := 7) (v := ?q7v) rfl (by kernel_rfl) (by kernel_rfl) (by kernel_rfl) (fun _ _ _ h => h) (by rfl) ?q7y hHeld ?_
    case q7y => ((intro w _hSw; (try dsimp only at _hSw); go_simp); try (with_reducible rfl))
    try simp only [Act.put, List.setIfInBounds_toArray, List.set_cons_zero, List.set_cons_succ]
    refine held_row (i := 8) rfl (by kernel_rfl) (by kernel_rfl) (by kernel_rfl) _ _ rfl _ _ rfl ?q8C ?q8D (fun _ _ _ h => h) (by rfl) ?q8a ?q8b ?q8c ?q8d hHeld ?_
    case q8a => (intro w hSw; (try dsimp only at hSw); go_split_ands; assumption)
    case q8b => assumption
    case q8c => rfl
    case q8d => first | assumption | (simp only [*]; done)
    try simp only [Act.put, List.setIfInBounds_toArray, List.set_cons_zero, List.set_cons_succ]
    refine held_step (i := 4) rfl (by kernel_rfl) (by rfl) (fun K hK => ?_)
    go_simp
    refine (IHa.out ca _ (HT.out.1.below HB.out) (by have := HT.out.2.2; omega)).mono ?_
    rintro e wc ⟨rfl, hb⟩
    have HB := Lib.hid (below_then HB.out HB.out.size hb)
    clear hb
    go_wp2_with fail
    have hHeld := HTS.out _ HB.out
    refine hK.out _ _ (HTS.out _ HB.out) ?_
    clear hK K
    try simp only [Act.put, List.setIfInBounds_toArray, List.set_cons_zero, List.set_cons_succ]
    refine held_step (i := 9) rfl (by kernel_rfl) (by rfl) (fun K hK => ?_)
    go_simp
    refine (IHb.out cb _ (HT.out.2.1.below HB.out) (by have := HT.out.2.2; omega)).mono ?_
    rintro e wc ⟨rfl, hb⟩
    have HB := Lib.hid (below_then HB.out HB.out.size hb)
    clear hb
    go_wp2_with fail
    have hHeld := HTS.out _ HB.out
    refine hK.out _ _ (HTS.out _ HB.out) ?_
    clear hK K
    try simp only [Act.put, List.setIfInBounds_toArray, List.set_cons_zero, List.set_cons_succ]
    refine held_take (i := 10) (v := (.int .i64 ((mx : Nat) : Int))) rfl (by kernel_rfl) (by kernel_rfl) (by kernel_rfl) (fun _ _ _ h => h) (by rfl) ?q9y hHeld ?_
    case q9y => (intro w _hSw; (try dsimp only at _hSw); go_simp; exact HW.out.2)
    try simp only [Act.put, List.setIfInBounds_toArray, List.set_cons_zero, List.set_cons_succ]
    refine held_take (i := 11) (v := (.int .i64 ((hh : Nat) : Int))) rfl (by kernel_rfl) (by kernel_rfl) (by kernel_rfl) (fun _ _ _ h => h) (by rfl) ?q10y hHeld ?_
    case q10y => (intro w _hSw; (try dsimp only at _hSw); go_simp; try rw [HW.out.1])
    try simp only [Act.put, List.setIfInBounds_toArray, List.set_cons_zero, List.set_cons_succ]
    refine held_take (i := 12) (v := ?q11v) rfl (by kernel_rfl) (by kernel_rfl) (by kernel_rfl) (fun _ _ _ h => h) (by rfl) ?q11y hHeld ?_
    case q11y => ((intro w _hSw; (try dsimp only at _hSw); go_simp); try (with_reducible rfl))
    try simp only [Act.put, List.setIfInBounds_toArray, List.set_cons_zero, List.set_cons_succ]
    refine wpAnyH_done (by kernel_rfl) ?_ _
    go_wp2
    go_ret
    refine ⟨by rw [HE.out]; rfl, below_then H0.out.1 H0.out.1.size HB.out⟩
def RPairs (t : Av) : Prop := ∀ (cs : List Value) (w : World), RC w t cs → t.many ≤ 900000 →
    Calls Tryd.prog 34 #[.agg cs.toArray] w fun e w' => ∃ v, e = .returned v ∧ w'.ownsRow w.heap.size 38 2 v t.many (pairsC t.pairs) ∧ Below w.heap.size w w'
set_option maxRecDepth 100000 in
set_option maxHeartbeats 1000000 in
theorem rpairs_tree : ∀ t : Av, RPairs t
  | .leaf k v => by
    intro cs w h _
    obtain rfl := h
    go_enter Tryd.func34, Tryd.ntmps34
    go_wp2_with (refine wpList_row1 rfl tPr _ rfl (pairC (k, v)) rfl rfl (by decide) ?_)
    go_ret
    refine ⟨_, rfl, ?_, by refine Below.alloc (Below.alloc (Below.refl _ _) (Nat.le_refl _) _) ?_ _; rw [World.size_alloc]; omega⟩
    have h := World.ownsRow_lit (base := w.heap.size) (e := 38) (size := 2) (w.alloc (.cells #[.bool true, S8 k, S8 v, .slice none 0 0] 26)) (pairC (k, v)).toArray 1 (by rw [World.size_alloc]; omega) (by decide) rfl
    rw [World.size_alloc] at h
    exact h
  | .node a b => by
    have IHa := Lib.hid (rpairs_tree a)
    have IHb := Lib.hid (rpairs_tree b)
    intro cs w h hm
    obtain ⟨g, ca, cb, rfl, hra, hrb, ha, hb⟩ := rnode h
    simp only [Av.many] at hm
    have HML := Lib.hid (show a.many + b.many ≤ maxLen ∧ (a.many + b.many) * 32 ≤ 140737488355328 by unfold maxLen; omega)
    have ia : (Tryd.prog.info? 26).map (·.size) = some ca.length := by rw [ha.len]; kernel_rfl
    have ib : (Tryd.prog.info? 26).map (·.size) = some cb.length := by rw [hb.len]; kernel_rfl
    have uT := Tryd.underlying26
    obtain ⟨bx, hbx⟩ : ∃ n, n = w.heap.size := ⟨_, rfl⟩
    have hb0 : Below w.heap.size w (w.alloc (.cells [.bool true, S8 [], S8 [], .slice (some ⟨g, 0, none⟩) 2 2].toArray 26)) := (Below.refl _ _).alloc (Nat.le_refl _) _
    have hz0 := Blk_new w [.bool true, S8 [], S8 [], .slice (some ⟨g, 0, none⟩) 2 2] 26
    go_enter Tryd.func34, Tryd.ntmps34
    go_upto_region 1 with fail
    change Code.wp _ _ _ _ (w.alloc (.cells [.bool true, S8 [], S8 [], .slice (some ⟨g, 0, none⟩) 2 2].toArray 26))
    generalize w.alloc (.cells [.bool true, S8 [], S8 [], .slice (some ⟨g, 0, none⟩) 2 2].toArray 26) = w0 at *
    have H0 := Lib.hid (And.intro hb0 hz0)
    rw [← hbx] at hz0
    have e0 : w0.cell? ⟨bx, 0, none⟩ = some (.bool true) := hz0.cellD 0 _ rfl
    have e3 : w0.cell? ⟨bx, 3, none⟩ = some (.slice (some ⟨g, 0, none⟩) 2 2) := hz0.cellD 3 _ rfl
    have HTS : Hid (∀ w', Below w0.heap.size w0 w' → w'.cell? ⟨bx, 3, none⟩ = some (.slice (some ⟨g, 0, none⟩) 2 2) ∧ w'.rangeAt g 0 ca ∧ w'.rangeAt g 4 cb) := Lib.hid fun w' h => ⟨cell_below e3 h, range_below (range_below hra hb0) h, range_below (range_below hrb hb0) h⟩
    have HT := Lib.hid (And.intro (ha.below hb0) (And.intro (hb.below hb0) hm))
    have HB : Hid (Below w0.heap.size w0 (w0.drewN 1)) := Lib.hid (refl_drewN w0 1)
    rw [← hbx]
    clear h hm ha hb hra hrb hb0 hz0 hbx
    go_wp2_with fail
    refine wp_region_held_drew (S := (fun w' => w'.cell? ⟨bx, 3, none⟩ = some (.slice (some ⟨g, 0, none⟩) 2 2) ∧ w'.rangeAt g 0 ca ∧ w'.rangeAt g 4 cb)) (by kernel_rfl) ?qs0 (fun hHeld => ?_)
    case qs0 => exact HTS.out _ HB.out
    refine held_take (i := 0) (v := ?q1v) rfl (by kernel_rfl) (by kernel_rfl) (by kernel_rfl) (fun _ _ _ h => h) (by rfl) ?q1y hHeld ?_
    case q1y => ((intro w _hSw; (try dsimp only at _hSw); go_simp); try (with_reducible rfl))
    try simp only [Act.put, List.setIfInBounds_toArray, List.set_cons_zero, List.set_cons_succ]
    refine held_take (i := 1) (v := ?q2v) rfl (by kernel_rfl) (by kernel_rfl) (by kernel_rfl) (fun _ _ _ h => h) (by rfl) ?q2y hHeld ?_
    case q2y => ((intro w _hSw; (try dsimp only at _hSw); go_simp); try (with_reducible rfl))
    try simp only [Act.put, List.setIfInBounds_toArray, List.set_cons_zero, List.set_cons_succ]
    refine held_take (i := 2) (v := ?q3v) rfl (by kernel_rfl) (by kernel_rfl) (by kernel_rfl) (fun _ _ _ h => h) (by rfl) ?q3y hHeld ?_
    case q3y => ((intro w _hSw; (try dsimp only at _hSw); go_simp); try (with_reducible rfl))
    try simp only [Act.put, List.setIfInBounds_toArray, List.set_cons_zero, List.set_cons_succ]
    refine held_row (i := 3) rfl (by kernel_rfl) (by kernel_rfl) (by kernel_rfl) _ _ rfl _ _ rfl ?q4C ?q4D (fun _ _ _ h => h) (by rfl) ?q4a ?q4b ?q4c ?q4d hHeld ?_
    case q4a => (intro w hSw; (try dsimp only at hSw); go_split_ands; assumption)
    case q4b => assumption
    case q4c => rfl
    case q4d => first | assumption | (simp only [*]; done)
    try simp only [Act.put, List.setIfInBounds_toArray, List.set_cons_zero, List.set_cons_succ]
    refine held_take (i := 5) (v := ?q5v) rfl (by kernel_rfl) (by kernel_rfl) (by kernel_rfl) (fun _ _ _ h => h) (by rfl) ?q5y hHeld ?_
    case q5y => ((intro w _hSw; (try dsimp only at _hSw); go_simp); try (with_reducible rfl))
    try simp only [Act.put, List.setIfInBounds_toArray, List.set_cons_zero, List.set_cons_succ]
    refine held_take (i := 6) (v := ?q6v) rfl (by kernel_rfl) (by kernel_rfl) (by kernel_rfl) (fun _ _ _ h => h) (by rfl) ?q6y hHeld ?_
    case q6y => ((intro w _hSw; (try dsimp only at _hSw); go_simp); try (with_reducible rfl))
    try simp only [Act.put, List.setIfInBounds_toArray, List.set_cons_zero, List.set_cons_succ]
    refine held_take (i := 7) (v := ?q7v) rfl (by kernel_rfl) (by kernel_rfl) (by kernel_rfl) (fun _ _ _ h => h) (by rfl) ?q7y hHeld ?_
    case q7y => ((intro w _hSw; (try dsimp only at _hSw); go_simp); try (with_reducible rfl))
    try simp only [Act.put, List.setIfInBounds_toArray, List.set_cons_zero, List.set_cons_succ]
    refine held_row (i := 8) rfl (by kernel_rfl) (by kernel_rfl) (by kernel_rfl) _ _ rfl _ _ rfl ?q8C ?q8D (fun _ _ _ h => h) (by rfl) ?q8a ?q8b ?q8c ?q8d hHeld ?_
    case q8a => (intro w hSw; (try dsimp only at hSw); go_split_ands; assumption)
    case q8b => assumption
    case q8c => rfl
    case q8d => first | assumption | (simp only [*]; done)
    try simp only [Act.put, List.setIfInBounds_toArray, List.set_cons_zero, List.set_cons_succ]
    refine held_step (i := 4) rfl (by kernel_rfl) (by rfl) (fun K hK => ?_)
    go_simp
    refine (IHa.out ca _ (HT.out.1.below HB.out) (by have := HT.out.2.2; omega)).mono ?_
    rintro e wc ⟨v1, rfl, ho, hb⟩
    have HO := Lib.hid (own_mono ho HB.out.size)
    have HB := Lib.hid (below_then HB.out HB.out.size hb)
    clear ho hb
    go_wp2_with fail
    have hHeld := HTS.out _ HB.out
    refine hK.out _ _ (HTS.out _ HB.out) ?_
    clear hK K
    try simp only [Act.put, List.setIfInBounds_toArray, List.set_cons_zero, List.set_cons_succ]
    refine held_step (i := 9) rfl (by kernel_rfl) (by rfl) (fun K hK => ?_)
    go_simp
    refine (IHb.out cb _ (HT.out.2.1.below HB.out) (by have := HT.out.2.2; omega)).mono ?_
    rintro e wc ⟨v2, rfl, ho, hb⟩
    have HO := Lib.hid (own_below HO.out hb)
    obtain ⟨A2, c2, rfl, hc2, hr2, _⟩ := own_slice ho
    have HR := Lib.hid hr2
    have HB := Lib.hid (below_then HB.out HB.out.size hb)
    clear ho hb hr2 hc2
    go_wp2_with fail
    have hHeld := HTS.out _ HB.out
    refine hK.out _ _ (HTS.out _ HB.out) ?_
    clear hK K
    try simp only [Act.put, List.setIfInBounds_toArray, List.set_cons_zero, List.set_cons_succ]
    refine held_step (i := 10) rfl (by kernel_rfl) (by rfl) (fun K hK => ?_)
    refine wp_app0 tPr (.tmp 20) (.tmp 25) rfl w0.heap.size _ a.many (pairsC a.pairs) rfl HO.out A2 b.many c2 (pairsC b.pairs) rfl HR.out (by rw [pairsC_len, b.pairs_length]) (pairsC_one _) HML.out.1 HML.out.2 HB.out.size ?_
    intro v6 wc ho6 hx6
    have HB := Lib.hid (HB.out.grown hx6.grown HB.out.size (fun q e => (HO.out.lt q e).1))
    have HR6 := Lib.hid ho6
    clear ho6 hx6
    have hHeld := HTS.out _ HB.out
    refine hK.out _ _ (HTS.out _ HB.out) ?_
    clear hK K
    (try simp only [Act.put]); (try simp only [List.setIfInBounds_toArray]); (try simp only [List.set_cons_succ]); (try simp only [List.set_cons_zero])
    refine held_take (i := 11) (v := ?q9v) rfl (by kernel_rfl) (by kernel_rfl) (by kernel_rfl) (fun _ _ _ h => h) (by rfl) ?q9y hHeld ?_
    case q9y => ((intro w _hSw; (try dsimp only at _hSw); go_simp); try (with_reducible rfl))
    try simp only [Act.put, List.setIfInBounds_toArray, List.set_cons_zero, List.set_cons_succ]
    refine wpAnyH_done (by kernel_rfl) ?_ _
    go_wp2
    go_ret
    refine ⟨_, rfl, ?_, below_then H0.out.1 H0.out.1.size HB.out⟩
    have h := own_mono HR6.out H0.out.1.size
    rw [← pairsC_append] at h
    exact h
end Go.Proofs.YtdekealpachhmaaDoor
