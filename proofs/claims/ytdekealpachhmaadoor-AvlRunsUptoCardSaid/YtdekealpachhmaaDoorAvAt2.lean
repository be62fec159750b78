/- Layer 7: At by its contract. -/
import Derived.Test.YtdekealpachhmaaDoorAvAt
namespace Go.Proofs.YtdekealpachhmaaDoor
open Go Go.RowKit Go.Isth

theorem results_blk2 {P : Program} {fn : Func} {p u : Tmp} {ty : TypeId} (h : fn.results = #[.cell p ty, .tmp u]) (tmps : Array Value) (w : World) (g : Nat) (t : TypeId) (cs : List Value) (d : TypeDesc)
    (hp : tmps.getD p undef = .pointer (some ⟨g, 0, none⟩)) (hg : Blk w g t cs)
    (hu : P.underlying ty = some d) (hd : (match d with | .struct _ => true | .array _ _ => true | _ => false) = true) (hi : (P.info? ty).map (·.size) = some cs.length) :
    (results fn tmps).run P w = .ok (.tuple #[.agg cs.toArray, tmps.getD u undef]) w := by
  rw [results_cell_tmp h, hp]
  have hl := run_load_agg (P := P) hu hd hi w ⟨g, 0, none⟩ cs rfl (fun j u hj => by rw [add_plain, Nat.zero_add]; exact hg.cellD j u hj)
  simp [asAddr, hl, Result.andThen]
theorem cell_grown {w w' : World} {b o : Nat} {v : Value} {row : Option Nat} (h : w.cell? ⟨b, o, none⟩ = some v) (hg : w.grownBy w' row) (hne : row ≠ some b) : w'.cell? ⟨b, o, none⟩ = some v := by
  rw [World.cell?_of_block (w := w) (a := ⟨b, o, none⟩) (hg.block _ (World.block_lt_of_cell? w _ h) (fun e => hne e.symm))]
  exact h
def pairC (p : Str × Str) : List Value := [S8 p.1, S8 p.2]
def AtInv (w0 : World) (t : Av) (i : Nat) (v j : Value) (wr : World) : Prop := ∃ (t' : Av) (g' m : Nat), v = Ptr g' ∧ j = .int .i64 (m : Nat) ∧ TreeAt w0 t' g' ∧ t'.at_ m = t.at_ i ∧ m < t'.many ∧ t'.many ≤ 900000 ∧ wr = w0
theorem at_no (t : Option Av) (v : Value) (i : Int) (w : World) (h : TreeO w t v) (hi : i < 0 ∨ (manyO t : Int) ≤ i) :
    Calls Tryd.prog 26 #[v, .int .i64 i] w fun e w' => ∃ v', e = .returned (.tuple #[.agg (pairC ([], [])).toArray, v']) ∧ FaultIs w' v' 1 ∧ Below w.heap.size w w' := by
  have H := Lib.hid (And.intro h hi)
  clear hi h
  have hb0 : Below w.heap.size w (w.alloc (.cells (pairC ([], [])).toArray 38)) := (Below.refl _ _).alloc (Nat.le_refl _) _
  have hz0 := Blk_new w (pairC ([], [])) 38
  go_enter Tryd.func26, Tryd.ntmps26
  go_upto_region 1 with fail
  change Code.wp _ _ _ _ (w.alloc (.cells (pairC ([], [])).toArray 38))
  generalize w.alloc (.cells (pairC ([], [])).toArray 38) = w0 at *
  have H0 := Lib.hid (And.intro hb0 hz0)
  clear hb0 hz0
  go_wp2_with fail
  refine (place_no t v i w0 (H.out.1.below H0.out.1) H.out.2).mono ?_
  rintro e w' ⟨v', rfl, hf, hb⟩
  have H1 := Lib.hid (And.intro hf (And.intro (below_then H0.out.1 H0.out.1.size hb) (H0.out.2.below hb)))
  clear hb
  obtain ⟨b, rfl⟩ := hf.shape
  clear hf
  go_wp2_with (refine wpList_store_blk rfl 38 _ _ rfl w.heap.size (pairC ([], [])) rfl rfl 38 _ H1.out.2.2 (by kernel_rfl) rfl (by decide) ?_; intro w8 hw8 hg8)
  refine bodyPost_ret (results_blk2 rfl _ _ w.heap.size 38 (pairC ([], [])) _ rfl hw8 Tryd.underlying38 rfl (by kernel_rfl)) rfl ⟨_, rfl, ?_, ?_⟩
  · obtain ⟨b', s, e, hc⟩ := H1.out.1
    obtain rfl : b = b' := by injection e with _ e; injection e with e; injection e with e; injection e
    refine ⟨b, s, rfl, ?_⟩
    have hne : b ≠ w.heap.size := by
      rintro rfl
      have := H1.out.2.2
      unfold Blk at this
      rw [this] at hc
      cases hc
    rw [hg8.block b (Array.getElem?_eq_some_iff.1 hc).1 (by intro e; injection e with e; exact hne e)]
    exact hc
  · exact H1.out.2.1.grown hg8 H1.out.2.1.size (fun q e => by injection e with e; omega)
set_option maxRecDepth 100000 in
set_option maxHeartbeats 1000000 in
theorem at_any (t : Av) (g i : Nat) (w : World) (h : TreeAt w t g) (hi : i < t.many) (hm : t.many ≤ 900000) :
    Calls Tryd.prog 26 #[Ptr g, .int .i64 (i : Nat)] w fun e w' => e = .returned (.tuple #[.agg (pairC (t.at_ i)).toArray, .nilIface]) ∧ Below w.heap.size w w' := by
  have H := Lib.hid (And.intro h (And.intro hi hm))
  clear hi h hm
  have hb0 : Below w.heap.size w (w.alloc (.cells (pairC ([], [])).toArray 38)) := (Below.refl _ _).alloc (Nat.le_refl _) _
  have hz0 := Blk_new w (pairC ([], [])) 38
  go_enter Tryd.func26, Tryd.ntmps26
  go_upto_region 1 with fail
  change Code.wp _ _ _ _ (w.alloc (.cells (pairC ([], [])).toArray 38))
  generalize w.alloc (.cells (pairC ([], [])).toArray 38) = w0 at *
  have H0 := Lib.hid (And.intro hb0 hz0)
  clear hb0 hz0
  go_wp2_with fail
  refine (place_ok (some t) (Ptr g) i w0 ⟨g, rfl, H.out.1.below H0.out.1⟩ H.out.2.1).mono ?_
  rintro e w' ⟨rfl, rfl⟩
  go_wp2_with fail
  go_loopw [0, 1, 7] (fun v j _ wr => AtInv w' t i v j wr) (fun v _ _ wr => hAt wr v)
  case atStart => exact ⟨t, g, i, rfl, rfl, H.out.1.below H0.out.1, rfl, H.out.2.1, H.out.2.2, rfl⟩
  case round =>
    obtain ⟨t', g', m, rfl, rfl, ht', hl, hlt, hle, hw⟩ := hrel
    obtain rfl : w' = wr := hw.symm
    have HL := Lib.hid (And.intro ht' (And.intro hl (And.intro hlt hle)))
    cases t' with
    | leaf k v =>
      have c0 := (tree_cells ht').1
      have c1 := (tree_cells ht').2.1
      have hk : Av.key (.leaf k v) = k := rfl
      have hv : Av.val (.leaf k v) = v := rfl
      rw [hk] at c0
      rw [hv] at c1
      clear ht' hl hlt hle hw hk hv
      go_wp2_with fail
      refine (isleaf_any _ g' w' HL.out.1).mono ?_
      rintro e w1 ⟨rfl, rfl⟩
      have hnot : Av.isLeaf (.leaf k v) = true := rfl
      have HNE := Lib.hid (show some w.heap.size ≠ some g' from fun e => (Blk.type_ne (show Blk w1 g' 127 _ from HL.out.1) H0.out.2 (by decide)) (by injection e with e; exact e.symm))
      go_wp2_with fail
      refine wp_region_held_drew (S := (fun w' => w'.cell? ⟨g', 0, none⟩ = some (S8 k) ∧ w'.cell? ⟨g', 1, none⟩ = some (S8 v))) (by kernel_rfl) ?qs0 (fun hHeld => ?_)
      case qs0 => exact ⟨c0, c1⟩
      refine held_take (i := 0) (v := ?q1v) rfl (by kernel_rfl) (by kernel_rfl) (by kernel_rfl) (fun _ _ _ h => h) (by rfl) ?q1y hHeld ?_
      case q1y => ((intro w _hSw; (try dsimp only at _hSw); go_simp); try (with_reducible rfl))
      try simp only [Act.put, List.setIfInBounds_toArray, List.set_cons_zero, List.set_cons_succ]
      refine held_take (i := 1) (v := ?q2v) rfl (by kernel_rfl) (by kernel_rfl) (by kernel_rfl) (fun _ _ _ h => h) (by rfl) ?q2y hHeld ?_
      case q2y => ((intro w _hSw; (try dsimp only at _hSw); go_simp); try (with_reducible rfl))
      try simp only [Act.put, List.setIfInBounds_toArray, List.set_cons_zero, List.set_cons_succ]
      refine held_take (i := 2) (v := ?q3v) rfl (by kernel_rfl) (by kernel_rfl) (by kernel_rfl) (fun _ _ _ h => h) (by rfl) ?q3y hHeld ?_
      case q3y => ((intro w _hSw; (try dsimp only at _hSw); go_simp); try (with_reducible rfl))
      try simp only [Act.put, List.setIfInBounds_toArray, List.set_cons_zero, List.set_cons_succ]
      refine held_take (i := 3) (v := ?q4v) rfl (by kernel_rfl) (by kernel_rfl) (by kernel_rfl) (fun _ _ _ h => h) (by rfl) ?q4y hHeld ?_
      case q4y => ((intro w _hSw; (try dsimp only at _hSw); go_simp); try (with_reducible rfl))
      try simp only [Act.put, List.setIfInBounds_toArray, List.set_cons_zero, List.set_cons_succ]
      refine held_take (i := 4) (v := ?q5v) rfl (by kernel_rfl) (by kernel_rfl) (by kernel_rfl) (fun _ _ _ h => h) (by rfl) ?q5y hHeld ?_
      case q5y => ((intro w _hSw; (try dsimp only at _hSw); go_simp); try (with_reducible rfl))
      try simp only [Act.put, List.setIfInBounds_toArray, List.set_cons_zero, List.set_cons_succ]
      refine held_take (i := 5) (v := ?q6v) rfl (by kernel_rfl) (by kernel_rfl) (by kernel_rfl) (fun _ _ _ h => h) (by rfl) ?q6y hHeld ?_
      case q6y => ((intro w _hSw; (try dsimp only at _hSw); go_simp); try (with_reducible rfl))
      try simp only [Act.put, List.setIfInBounds_toArray, List.set_cons_zero, List.set_cons_succ]
      refine held_take (i := 6) (v := ?q7v) rfl (by kernel_rfl) (by kernel_rfl) (by kernel_rfl) (fun _ _ _ h => h) (by rfl) ?q7y hHeld ?_
      case q7y => ((intro w _hSw; (try dsimp only at _hSw); go_simp); try (with_reducible rfl))
      try simp only [Act.put, List.setIfInBounds_toArray, List.set_cons_zero, List.set_cons_succ]
      refine held_take (i := 7) (v := ?q8v) rfl (by kernel_rfl) (by kernel_rfl) (by kernel_rfl) (fun _ _ _ h => h) (by rfl) ?q8y hHeld ?_
      case q8y => ((intro w _hSw; (try dsimp only at _hSw); go_simp); try (with_reducible rfl))
      try simp only [Act.put, List.setIfInBounds_toArray, List.set_cons_zero, List.set_cons_succ]
      refine held_take (i := 8) (v := (.agg (pairC (k, v)).toArray)) rfl (by kernel_rfl) (by kernel_rfl) (by kernel_rfl) (fun _ _ _ h => h) (by rfl) ?q9y hHeld ?_
      case q9y => (intro w _hSw; (try dsimp only at _hSw); go_simp; rfl)
      try simp only [Act.put, List.setIfInBounds_toArray, List.set_cons_zero, List.set_cons_succ]
      refine held_step (i := 9) rfl (by kernel_rfl) (by rfl) (fun K hK => ?_)
      refine wp_store_blk 38 (.tmp 4) (.tmp 47) rfl w.heap.size (pairC (k, v)) rfl rfl 38 _ (show Blk _ _ _ _ from H0.out.2) (by kernel_rfl) rfl (by intro u hu; simp only [pairC, List.mem_cons, List.not_mem_nil, or_false] at hu; rcases hu with rfl | rfl <;> rfl) ?_
      intro w9 hz hg
      have H9 := Lib.hid (And.intro hz (And.intro ((below_drewN H0.out.1 1).grown (row := some w.heap.size) hg H0.out.1.size (fun k e => by injection e with e; omega)) (And.intro (cell_grown (w := w1.drew) c0 hg HNE.out) (cell_grown (w := w1.drew) c1 hg HNE.out))))
      clear hz hg
      have hHeld := H9.out.2.2
      refine hK.out _ _ (H9.out.2.2) ?_
      clear hK K
      (try simp only [Act.put]); (try simp only [List.setIfInBounds_toArray]); (try simp only [List.set_cons_succ]); (try simp only [List.set_cons_zero])
      refine held_take (i := 10) (v := ?q10v) rfl (by kernel_rfl) (by kernel_rfl) (by kernel_rfl) (fun _ _ _ h => h) (by rfl) ?q10y hHeld ?_
      case q10y => ((intro w _hSw; (try dsimp only at _hSw); go_simp); try (with_reducible rfl))
      try simp only [Act.put, List.setIfInBounds_toArray, List.set_cons_zero, List.set_cons_succ]
      refine wpAnyH_done (by kernel_rfl) ?_ _
      go_wp2
      refine bodyPost_ret (results_blk2 rfl _ _ w.heap.size 38 (pairC (k, v)) _ rfl H9.out.1 Tryd.underlying38 rfl (by kernel_rfl)) rfl ⟨?_, H9.out.2.1⟩
      rw [← HL.out.2.1]
      rfl
    | node a b =>
      obtain ⟨ga, gb, c2, c3, ha, hb⟩ := node_cells ht'
      have HA := Lib.hid (And.intro ha hb)
      have cm := (tree_cells ha).2.2.1
      obtain ⟨am, ham⟩ : ∃ n, a.many = n := ⟨_, rfl⟩
      rw [ham] at cm
      have HAM := Lib.hid ham
      clear ht' hl ha hb
      simp only [Av.many] at hlt hle
      by_cases hlr : m < am
      · have hlr' : (m : Int) < (am : Int) := by omega
        have HH := Lib.hid (And.intro hlt (And.intro hle hlr))
        clear hlt hle hlr ham hw
        go_wp2_with fail
        refine (isleaf_any _ g' w' HL.out.1).mono ?_
        rintro e w1 ⟨rfl, rfl⟩
        have hnot : Av.isLeaf (.node a b) = false := rfl
        go_wp2
        refine ⟨⟨a, ga, m, rfl, rfl, HA.out.1, ?_, ?_, ?_, rfl⟩, ?_⟩
        · rw [← HL.out.2.1, Av.at_, if_pos (by rw [HAM.out]; exact HH.out.2.2)]
        · rw [HAM.out]; exact HH.out.2.2
        · have := HH.out.2.1; omega
        · rw [hAt_tree HA.out.1, hAt_tree HL.out.1]
          simp only [Av.height]; omega
      · have hlr' : ¬ (m : Int) < (am : Int) := by omega
        have hsub : wrap64 ((m : Int) - (am : Int)) = ((m - am : Nat) : Int) := by rw [IntWalk.wrap64_in _ ⟨by omega, by omega⟩]; omega
        have HH := Lib.hid (And.intro hlt (And.intro hle (And.intro hlr hsub)))
        clear hlt hle hlr ham hw hsub
        go_wp2_with fail
        refine (isleaf_any _ g' w' HL.out.1).mono ?_
        rintro e w1 ⟨rfl, rfl⟩
        have hnot : Av.isLeaf (.node a b) = false := rfl
        go_wp2
        refine ⟨⟨b, gb, m - am, rfl, by rw [HH.out.2.2.2], HA.out.2, ?_, ?_, ?_, rfl⟩, ?_⟩
        · rw [← HL.out.2.1, Av.at_, if_neg (by rw [HAM.out]; exact HH.out.2.2.1), HAM.out]
        · have := HH.out; have := HAM.out; omega
        · have := HH.out.2.1; omega
        · rw [hAt_tree HA.out.2, hAt_tree HL.out.1]
          simp only [Av.height]; omega
end Go.Proofs.YtdekealpachhmaaDoor
