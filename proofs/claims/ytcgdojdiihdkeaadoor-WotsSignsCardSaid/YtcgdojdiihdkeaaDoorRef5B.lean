/- Layer 5's reference: Leaf, Step by their contracts. -/
import Derived.Test.YtcgdojdiihdkeaaDoorRef5A
import Derived.Test.YtcgdojdiihdkeaaDoorRefB
namespace Go.Proofs.YtcgdojdiihdkeaaDoor
open Go Go.RowKit Go.Isth

theorem ruint_to (A : Option Addr) (c m : Nat) (cs : List UInt8) (n : Nat) (z : Int) (w : World) (hz : z = (n : Int)) (hm : m = cs.length) (hn : n < 18446744073709551616) (hr : Rd w A (cs.map B)) (hl : m ≤ 1000000) :
    Calls Tryd.prog 72 #[.slice A m c, .int .u64 z] w fun e w' => ∃ A' N c' ds, e = .returned (.slice A' N c') ∧ ds = cs ++ varint n ∧ N = ds.length ∧ Rd w' A' (ds.map B) ∧ Below w.heap.size w w' := by
  subst hz hm
  refine (refUint_any A c cs n w hn hr (by omega)).mono ?_
  rintro e w' ⟨v, rfl, ho, hb⟩
  obtain ⟨A', c', rfl, _, hrd, _⟩ := own_slice ho
  exact ⟨A', _, c', _, rfl, rfl, rfl, hrd, hb⟩
theorem rhash_to (A : Option Addr) (c m : Nat) (cs hs : List UInt8) (cv : List Value) (w : World) (hm : m = cs.length) (hv : cv = hs.map B) (hh : hs.length = 32) (hr : Rd w A (cs.map B)) (hl : m ≤ 1000000) :
    Calls Tryd.prog 71 #[.slice A m c, .agg cv.toArray] w fun e w' => ∃ A' N c' ds, e = .returned (.slice A' N c') ∧ ds = cs ++ hs ∧ N = ds.length ∧ Rd w' A' (ds.map B) ∧ Below w.heap.size w w' := by
  subst hm hv
  refine (refHash_any A c cs hs w hh hr (by omega)).mono ?_
  rintro e w' ⟨v, rfl, ho, hb⟩
  obtain ⟨A', c', rfl, _, hrd, _⟩ := own_slice ho
  exact ⟨A', _, c', _, rfl, rfl, rfl, hrd, hb⟩
theorem rsum_to (A : Option Addr) (c m : Nat) (bs : List UInt8) (w : World) (hm : m = bs.length) (hr : Rd w A (bs.map B)) (hl : m ≤ 1000000) :
    Calls Tryd.prog 30 #[.slice A m c] w fun e w' => ∃ cv : List Value, e = .returned (.agg cv.toArray) ∧ cv = (sumF bs).map B ∧ cv.length = 32 ∧ Below w.heap.size w w' := by
  subst hm
  refine (refsum_any A c bs w (by omega) hr).mono ?_
  rintro e w' ⟨rfl, hb⟩
  exact ⟨_, rfl, rfl, by rw [List.length_map, sumF_length], hb⟩
set_option maxRecDepth 100000 in
set_option maxHeartbeats 1000000 in
theorem rleaf_any (A : Option Addr) (c m : Nat) (bs : List UInt8) (w : World) (hmm : m = bs.length) (hm : m ≤ 999999) (hr : Rd w A (bs.map B)) :
    Calls Tryd.prog 41 #[.slice A m c] w fun e w' => ∃ cv : List Value, e = .returned (.agg cv.toArray) ∧ cv = (leafF bs).map B ∧ cv.length = 32 ∧ Below w.heap.size w w' := by
  have HT := Lib.hid (And.intro hm (And.intro hr hmm))
  clear hm hr hmm
  go_enter Tryd.func41, Tryd.ntmps41
  have hb0 : Below w.heap.size w (w.alloc (.cells (List.replicate 32 (B 0)).toArray 28)) := (Below.refl _ _).alloc (Nat.le_refl _) _
  have hz0 := Blk_new w (List.replicate 32 (B 0)) 28
  go_upto_region 1 with fail
  change Code.wp _ _ _ _ (w.alloc (.cells (List.replicate 32 (B 0)).toArray 28))
  generalize w.alloc (.cells (List.replicate 32 (B 0)).toArray 28) = w0 at *
  have hb1 := hb0.alloc hb0.size (.cells #[B 0] 5)
  have hz1 := hz0.alloc (.cells #[B 0] 5)
  have ho1 := World.ownsRow_lit (base := w0.heap.size) (e := 5) (size := 1) w0 #[B 0] 1 (Nat.le_refl _) (by decide) rfl
  have H1 := Lib.hid (And.intro hb1 (And.intro hz1 ho1))
  have HZ := Lib.hid hz0.lt
  clear hb0 hz0 hb1 hz1 ho1
  have HL := Lib.hid (show (1 + m ≤ maxLen ∧ (1 + m) * 1 ≤ 140737488355328) by have := HT.out.1; unfold maxLen; omega)
  go_wp2_with (at_builtin; refine wpList_app tBp rfl _ _ rfl w0.heap.size _ 1 [B 0] rfl H1.out.2.2 A m c (bs.map B) rfl (HT.out.2.1.below H1.out.1) (by have := HT.out.2.2; simp; omega) one_bytes HL.out.1 HL.out.2 (by simp) ?_)
  intro v1 w1 ho1 hx1
  have ho1' : w1.ownsRow w0.heap.size 5 1 v1 (1 + m) ((0 :: bs).map B) := ho1
  obtain ⟨A1, c1, rfl, hfit, hrd, _, _⟩ := own_slice ho1'
  have hb2 : Below w.heap.size w w1 := H1.out.1.grown hx1.grown H1.out.1.size (fun k e => by simp [Value.ownBlock] at e; have := HZ.out; omega)
  have hz2 := H1.out.2.1.grown hx1.grown (by simp [Value.ownBlock]; have := HZ.out; omega)
  have H2 := Lib.hid (And.intro hb2 (And.intro hz2 (And.intro hfit hrd)))
  clear hb2 hz2 hfit hrd ho1 ho1' hx1
  go_wp2_with fail
  refine (rsum_to A1 c1 (1 + m) (0 :: bs) w1 (by have := HT.out.2.2; simp; omega) H2.out.2.2.2 (by have := HT.out.1; omega)).mono ?_
  rintro e w2 ⟨cv, rfl, hcv, hcl, hb⟩
  have hz3 := H2.out.2.1.below hb
  have H3 := Lib.hid (And.intro (below_then H2.out.1 H2.out.1.size hb) hcv)
  have HLL := Lib.hid (show (some 32 : Option Nat) = some cv.length by rw [hcl])
  have HC := Lib.hid hcl
  have H1s := Lib.hid (show ∀ u ∈ cv, u.oneCell' = true by rw [hcv]; exact one_bytes)
  clear hb hcv hcl
  go_wp2_with (refine wpList_store_blk rfl 28 (.tmp 2) (.tmp 6) rfl w.heap.size cv rfl rfl 28 _ hz3 (Eq.trans (by kernel_rfl) HLL.out) (by rw [HC.out, List.length_replicate]) H1s.out ?_; intro w5 hw5 hg5)
  refine bodyPost_ret (results_blk rfl _ _ w.heap.size 28 cv _ rfl hw5 Tryd.underlying28 rfl (Eq.trans (by kernel_rfl) HLL.out)) rfl ⟨cv, rfl, H3.out.2, HC.out, ?_⟩
  exact H3.out.1.grown hg5 H3.out.1.size (fun k e => by injection e with e; omega)
end Go.Proofs.YtcgdojdiihdkeaaDoor
