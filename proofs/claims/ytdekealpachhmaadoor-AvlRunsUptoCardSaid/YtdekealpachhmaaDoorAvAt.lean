/- Layer 7: Root, place, At, Path by their contracts. -/
import Derived.Test.YtdekealpachhmaaDoorAvPa
namespace Go.Proofs.YtdekealpachhmaaDoor
open Go Go.RowKit Go.Isth

def rootO : Option Av → List UInt8
  | none => sumF []
  | some t => t.sum
theorem rootO_length (t : Option Av) : (rootO t).length = 32 := by
  cases t with
  | none => exact sumF_length _
  | some t => exact t.sum_length
set_option maxRecDepth 100000 in
set_option maxHeartbeats 1000000 in
theorem root_any (t : Option Av) (v : Value) (cs : List Value) (w : World) (h : TreeO w t v) (hcs : cs = (rootO t).map B) (ht : TabLaid w) :
    Calls Tryd.prog 16 #[v] w fun e w' => e = .returned (.agg cs.toArray) ∧ Below w.heap.size w w' := by
  have hcl : cs.length = 32 := by rw [hcs, List.length_map, rootO_length]
  have hc1 : ∀ u ∈ cs, u.oneCell' = true := by rw [hcs]; exact one_bytes
  have HLL := Lib.hid (show (some 32 : Option Nat) = some cs.length by rw [hcl])
  have hb0 : Below w.heap.size w (w.alloc (.cells (List.replicate 32 (B 0)).toArray 46)) := (Below.refl _ _).alloc (Nat.le_refl _) _
  have hz0 := Blk_new w (List.replicate 32 (B 0)) 46
  cases t with
  | none =>
    obtain rfl : v = .pointer none := h
    have HT := Lib.hid (And.intro hcs ht)
    clear hcs ht
    go_enter Tryd.func16, Tryd.ntmps16
    go_upto_region 1 with fail
    change Code.wp _ _ _ _ (w.alloc (.cells (List.replicate 32 (B 0)).toArray 46))
    generalize w.alloc (.cells (List.replicate 32 (B 0)).toArray 46) = w0 at *
    have H0 := Lib.hid (And.intro hb0 hz0)
    clear hb0 hz0
    go_wp2_with fail
    refine (hsum_to none 0 0 [] cs w0 w rfl H0.out.1 (Nat.le_refl _) (by decide) HT.out.1 (Rd.nil _ _) HT.out.2).mono ?_
    rintro e w1 ⟨rfl, hb1⟩
    have H1 := Lib.hid (And.intro (below_then H0.out.1 H0.out.1.size hb1) (H0.out.2.below hb1))
    clear hb1
    go_wp2_with (refine wpList_store_blk rfl 46 _ _ rfl w.heap.size cs rfl rfl 46 _ H1.out.2 (Eq.trans (by kernel_rfl) HLL.out) (by rw [hcl, List.length_replicate]) hc1 ?_; intro w8 hw8 hg8)
    refine bodyPost_ret (results_blk rfl _ _ w.heap.size 46 cs _ rfl hw8 Tryd.underlying46 rfl (Eq.trans (by kernel_rfl) HLL.out)) rfl ⟨rfl, ?_⟩
    exact H1.out.1.grown hg8 H1.out.1.size (fun q e => by injection e with e; omega)
  | some t =>
    obtain ⟨g, rfl, h⟩ := h
    obtain ⟨_, _, _, _, cs', hcs', h6⟩ := tree_cells h
    obtain rfl : cs' = cs := hcs'.trans hcs.symm
    have h6' : (w.alloc (.cells (List.replicate 32 (B 0)).toArray 46)).rangeAt g 6 cs' := fun j u hu => cell_below (h6 j u hu) hb0
    have i46 : (Tryd.prog.info? 46).map (·.size) = some cs'.length := by rw [hcl]; kernel_rfl
    have u46 := Tryd.underlying46
    clear hcs hcs' h h6 ht
    go_enter Tryd.func16, Tryd.ntmps16
    go_upto_region 1 with fail
    change Code.wp _ _ _ _ (w.alloc (.cells (List.replicate 32 (B 0)).toArray 46))
    generalize w.alloc (.cells (List.replicate 32 (B 0)).toArray 46) = w0 at *
    have H0 := Lib.hid (And.intro hb0 hz0)
    have HLD := Lib.hid (run_load_agg (P := Tryd.prog) Tryd.underlying46 rfl (by kernel_rfl) w0 ⟨g, 6, none⟩ cs' hcl (fun j u hj => by rw [add_plain]; exact h6' j u hj))
    clear hb0 hz0 h6' i46 u46
    go_wp2_with (first | (refine wpList_load rfl (.tmp 8) rfl ⟨g, 6, none⟩ (.agg cs'.toArray) rfl HLD.out ?_) | (refine wpList_store_blk rfl 46 _ _ rfl w.heap.size cs' rfl rfl 46 _ H0.out.2 (Eq.trans (by kernel_rfl) HLL.out) (by rw [hcl, List.length_replicate]) hc1 ?_; intro w8 hw8 hg8))
    refine bodyPost_ret (results_blk rfl _ _ w.heap.size 46 cs' _ rfl hw8 Tryd.underlying46 rfl (Eq.trans (by kernel_rfl) HLL.out)) rfl ⟨rfl, ?_⟩
    exact H0.out.1.grown hg8 H0.out.1.size (fun q e => by injection e with e; omega)
theorem place_no (t : Option Av) (v : Value) (i : Int) (w : World) (h : TreeO w t v) (hi : i < 0 ∨ (manyO t : Int) ≤ i) :
    Calls Tryd.prog 67 #[v, .int .i64 i] w fun e w' => ∃ v', e = .returned v' ∧ FaultIs w' v' 1 ∧ Below w.heap.size w w' := by
  have hc : i < 0 ∨ (¬ i < 0 ∧ (manyO t : Int) ≤ i) := by omega
  have H := Lib.hid h
  clear hi h
  rcases hc with h | ⟨h, h'⟩
  · go_enter Tryd.func67, Tryd.ntmps67
    go_wp2
    go_ret
    exact ⟨_, rfl, FaultIs.new w _ 1, (Below.refl _ _).alloc (Nat.le_refl _) _⟩
  · go_enter Tryd.func67, Tryd.ntmps67
    go_wp2_with fail
    refine (len_any t v w H.out).mono ?_
    rintro e w' ⟨rfl, rfl⟩
    go_wp2
    go_ret
    exact ⟨_, rfl, FaultIs.new w' _ 1, (Below.refl _ _).alloc (Nat.le_refl _) _⟩
theorem place_ok (t : Option Av) (v : Value) (i : Nat) (w : World) (h : TreeO w t v) (hi : i < manyO t) :
    Calls Tryd.prog 67 #[v, .int .i64 (i : Nat)] w fun e w' => e = .returned .nilIface ∧ w' = w := by
  have h0 : ¬ (i : Int) < 0 := by omega
  have h1 : ¬ (manyO t : Int) ≤ (i : Int) := by omega
  have H := Lib.hid h
  clear hi h
  go_enter Tryd.func67, Tryd.ntmps67
  go_wp2_with fail
  refine (len_any t v w H.out).mono ?_
  rintro e w' ⟨rfl, rfl⟩
  go_wp2
  go_ret
  exact ⟨rfl, rfl⟩
theorem path_no (t : Option Av) (v : Value) (i : Int) (w : World) (h : TreeO w t v) (hi : i < 0 ∨ (manyO t : Int) ≤ i) :
    Calls Tryd.prog 27 #[v, .int .i64 i] w fun e w' => ∃ v', e = .returned (.tuple #[.slice none 0 0, v']) ∧ FaultIs w' v' 1 ∧ Below w.heap.size w w' := by
  have H := Lib.hid (And.intro h hi)
  clear hi h
  go_enter Tryd.func27, Tryd.ntmps27
  go_wp2_with fail
  refine (place_no t v i w H.out.1 H.out.2).mono ?_
  rintro e w' ⟨v', rfl, hf, hb⟩
  have H1 := Lib.hid (And.intro hf hb)
  clear hb
  obtain ⟨b, rfl⟩ := hf.shape
  clear hf
  go_wp2
  go_ret2
  exact ⟨_, rfl, H1.out.1, H1.out.2⟩
theorem path_any (t : Av) (g i : Nat) (w : World) (h : TreeAt w t g) (hi : i < t.many) (hm : t.many ≤ 900000) :
    Calls Tryd.prog 27 #[Ptr g, .int .i64 (i : Nat)] w fun e w' => ∃ v', e = .returned (.tuple #[v', .nilIface]) ∧ w'.ownsRow w.heap.size 67 34 v' (t.path i).length (stepsC (t.path i)) ∧ Below w.heap.size w w' := by
  have H := Lib.hid (And.intro h (And.intro hi hm))
  clear hi h hm
  go_enter Tryd.func27, Tryd.ntmps27
  go_wp2_with fail
  refine (place_ok (some t) (Ptr g) i w ⟨g, rfl, H.out.1⟩ H.out.2.1).mono ?_
  rintro e w' ⟨rfl, rfl⟩
  go_wp2_with fail
  refine (path_tree t i g _ H.out.1 H.out.2.1 H.out.2.2).mono ?_
  rintro e w1 ⟨v', rfl, ho, hb⟩
  have H1 := Lib.hid (And.intro ho hb)
  obtain ⟨A, c, rfl, _⟩ := own_slice ho
  clear ho hb
  go_wp2
  go_ret2
  exact ⟨_, rfl, H1.out.1, H1.out.2⟩
end Go.Proofs.YtdekealpachhmaaDoor
