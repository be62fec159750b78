/- Layer 7's reference: leaf, two by their contracts. -/
import Derived.Test.YtdekealpachhmaaDoorRvT
namespace Go.Proofs.YtdekealpachhmaaDoor
open Go Go.RowKit Go.Isth

/-- Below N all blocks but one are as they were. -/
def Off (w : World) (x : Nat) (w' : World) : Prop := ∀ b, b < w.heap.size → b ≠ x → w'.heap[b]? = w.heap[b]?
theorem off_below {w w' : World} {x : Nat} (h : Below w.heap.size w w') : Off w x w' := fun b hb _ => h.block b hb
theorem off_store {w w1 w' : World} {x : Nat} (h : Below w.heap.size w w1) (hg : w1.grownBy w' (some x)) : Off w x w' := fun b hb hne =>
  (hg.block b (Nat.lt_of_lt_of_le hb h.size) (fun e => hne (by injection e))).trans (h.block b hb)
theorem cell_off {w w' : World} {x b o : Nat} {v : Value} (h : w.cell? ⟨b, o, none⟩ = some v) (hf : Off w x w') (hne : b ≠ x) : w'.cell? ⟨b, o, none⟩ = some v := by
  rw [World.cell?_of_block (w := w) (a := ⟨b, o, none⟩) (hf b (World.block_lt_of_cell? w _ h) hne)]
  exact h
theorem range_off {w w' : World} {x b o : Nat} {cs : List Value} (h : w.rangeAt b o cs) (hf : Off w x w') (hne : b ≠ x) : w'.rangeAt b o cs := fun j u hu => cell_off (h j u hu) hf hne
theorem blk_range {w : World} {b : Nat} {t : TypeId} {cs : List Value} (h : Blk w b t cs) : w.rangeAt b 0 cs := fun j u hu => by
  rw [Nat.zero_add]
  exact Blk.cellD h j u hu
theorem emptyC_len : emptyC.length = 4 := rfl
theorem rleaf_any (k v : Str) (w : World) :
    Calls Tryd.prog 85 #[S8 k, S8 v] w fun e w' => ∃ cs, e = .returned (.agg cs.toArray) ∧ RC w' (.leaf k v) cs ∧ Below w.heap.size w w' := by
  have hb0 : Below w.heap.size w (w.alloc (.cells emptyC.toArray 26)) := (Below.refl _ _).alloc (Nat.le_refl _) _
  have hz0 := Blk_new w emptyC 26
  go_enter Tryd.func85, Tryd.ntmps85
  go_upto_region 1 with fail
  change Code.wp _ _ _ _ (w.alloc (.cells emptyC.toArray 26))
  generalize w.alloc (.cells emptyC.toArray 26) = w0 at *
  have H0 := Lib.hid (And.intro hb0 hz0)
  clear hb0 hz0
  go_wp2_with (refine wpList_store_blk rfl 26 _ _ rfl w.heap.size [.bool true, S8 k, S8 v, .slice none 0 0] rfl rfl 26 _ H0.out.2 (by kernel_rfl) rfl (RC.one (w := w) (t := .leaf k v) rfl) ?_; intro w8 hw8 hg8)
  refine bodyPost_ret (results_blk rfl _ _ w.heap.size 26 [.bool true, S8 k, S8 v, .slice none 0 0] _ rfl hw8 Tryd.underlying26 rfl (by kernel_rfl)) rfl ⟨_, rfl, rfl, ?_⟩
  exact H0.out.1.grown hg8 H0.out.1.size (fun q e => by injection e with e; omega)
set_option maxRecDepth 100000 in
set_option maxHeartbeats 1000000 in
theorem rtwo_any (a b : Av) (ca cb : List Value) (w : World) (ha : RC w a ca) (hb : RC w b cb) :
    Calls Tryd.prog 86 #[.agg ca.toArray, .agg cb.toArray] w fun e w' => ∃ cs, e = .returned (.agg cs.toArray) ∧ RC w' (.node a b) cs ∧ Below w.heap.size w w' := by
  have la := ha.len
  have lb := hb.len
  have H := Lib.hid (And.intro ha hb)
  obtain ⟨w1, hw1⟩ : ∃ w1, w1 = w.alloc (.cells ca.toArray 26) := ⟨_, rfl⟩
  obtain ⟨w2, hw2⟩ : ∃ w2, w2 = w1.alloc (.cells cb.toArray 26) := ⟨_, rfl⟩
  obtain ⟨w3, hw3⟩ : ∃ w3, w3 = w2.alloc (.cells emptyC.toArray 26) := ⟨_, rfl⟩
  have s1 : w1.heap.size = w.heap.size + 1 := by rw [hw1, World.size_alloc]
  have s2 : w2.heap.size = w.heap.size + 1 + 1 := by rw [hw2, World.size_alloc, s1]
  have h1 : Below w.heap.size w w1 := by rw [hw1]; exact (Below.refl _ _).alloc (Nat.le_refl _) _
  have h2 : Below w.heap.size w w2 := by rw [hw2]; exact h1.alloc h1.size _
  have h3 : Below w.heap.size w w3 := by rw [hw3]; exact h2.alloc h2.size _
  have z1 : Blk w3 w.heap.size 26 ca := by rw [hw3, hw2, hw1]; exact ((Blk_new w ca 26).alloc _).alloc _
  have z2 : Blk w3 (w.heap.size + 1) 26 cb := by rw [← s1, hw3, hw2]; exact (Blk_new w1 cb 26).alloc _
  have z3 : Blk w3 (w.heap.size + 1 + 1) 26 emptyC := by rw [← s2, hw3]; exact Blk_new w2 emptyC 26
  have HA := Lib.hid (run_load_agg (P := Tryd.prog) Tryd.underlying26 rfl (by kernel_rfl) w3 ⟨w.heap.size, 0, none⟩ ca la (fun j u hj => by rw [add_plain, Nat.zero_add]; exact z1.cellD j u hj))
  have HB := Lib.hid (run_load_agg (P := Tryd.prog) Tryd.underlying26 rfl (by kernel_rfl) w3 ⟨w.heap.size + 1, 0, none⟩ cb lb (fun j u hj => by rw [add_plain, Nat.zero_add]; exact z2.cellD j u hj))
  have H3 := Lib.hid (And.intro h3 (And.intro z3 (And.intro la lb)))
  go_enter Tryd.func86, Tryd.ntmps86
  go_upto_region 1 with fail
  change Code.wp _ _ _ _ (((w.alloc (.cells ca.toArray 26)).alloc (.cells cb.toArray 26)).alloc (.cells emptyC.toArray 26))
  rw [← hw1, ← hw2, ← hw3]
  clear hw1 hw2 hw3 s1 s2 h1 h2 h3 z1 z2 z3 ha hb la lb
  obtain ⟨nc, hnc⟩ : ∃ nc : List Value, nc = [.bool true, S8 [], S8 [], .slice (some ⟨w3.heap.size, 0, none⟩) 2 2] := ⟨_, rfl⟩
  have hn1 : ∀ u ∈ nc, u.oneCell' = true := by
    intro u hu
    rw [hnc] at hu
    simp only [List.mem_cons, List.not_mem_nil, or_false] at hu
    rcases hu with rfl | rfl | rfl | rfl <;> rfl
  have HN := Lib.hid (And.intro hnc hn1)
  have hnl : nc.length = 4 := by rw [hnc]; rfl
  clear hnc hn1
  go_wp2_with (first
    | (refine wpList_load rfl (.tmp 2) rfl ⟨w.heap.size, 0, none⟩ (.agg ca.toArray) rfl HA.out ?_)
    | (refine wpList_load rfl (.tmp 3) rfl ⟨w.heap.size + 1, 0, none⟩ (.agg cb.toArray) rfl HB.out ?_)
    | (refine wpList_row2 rfl tTr (.tmp 5) (.tmp 6) rfl ca cb rfl rfl H3.out.2.2.1 H3.out.2.2.2 (by decide) ?_; have H4 := Lib.hid (And.intro (H3.out.1.alloc H3.out.1.size (.cells (ca ++ cb).toArray 26)) (And.intro (H3.out.2.1.alloc (.cells (ca ++ cb).toArray 26)) (And.intro (Blk_new w3 (ca ++ cb) 26) H3.out.1.size))))
    | (refine wpList_store_blk rfl 26 _ _ rfl (w.heap.size + 1 + 1) nc rfl (by rw [HN.out.1]; rfl) 26 _ H4.out.2.1 (by rw [hnl]; kernel_rfl) (by rw [hnl]; rfl) HN.out.2 ?_; intro w8 hw8 hg8))
  refine bodyPost_ret (results_blk rfl _ _ (w.heap.size + 1 + 1) 26 nc _ rfl hw8 Tryd.underlying26 rfl (by rw [hnl]; kernel_rfl)) rfl ⟨_, rfl, ?_, ?_⟩
  · have hb8 : Below w.heap.size w w8 := H4.out.1.grown hg8 H4.out.1.size (fun q e => by injection e with e; omega)
    refine ⟨w3.heap.size, ca, cb, HN.out.1, H4.out.2.2.1.grown hg8 (fun e => ?_), H.out.1.below hb8, H.out.2.below hb8⟩
    injection e with e
    have := H3.out.2.1.lt
    omega
  · exact H4.out.1.grown hg8 H4.out.1.size (fun q e => by injection e with e; omega)
end Go.Proofs.YtdekealpachhmaaDoor
