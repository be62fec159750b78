/- Layer 7: a tree in memory; Leaf by its contract. -/
import Derived.Test.YtdekealpachhmaaDoorAvS
import Derived.Test.YtdekealpachhmaaDoorPackA
import Derived.Test.YtdekealpachhmaaDoorShaC
import Derived.Test.YtdekealpachhmaaDoorBlk
import Derived.Test.YtdekealpachhmaaDoorPackT
namespace Go.Proofs.YtdekealpachhmaaDoor
open Go Go.RowKit Go.Isth

abbrev S8 (s : Str) : Value := .string ⟨s.toArray⟩
def PtrO (g : Option Nat) : Value := .pointer (g.map fun b => ⟨b, 0, none⟩)
/-- The cells of a tree's node. -/
def treeCells (k v : Str) (f s : Option Nat) (many height : Nat) (sum : List UInt8) : List Value :=
  [S8 k, S8 v, PtrO f, PtrO s, .int .i64 (many : Nat), .int .i64 (height : Nat)] ++ sum.map B
/-- A tree as it lies in memory. -/
def TreeAt (w : World) : Av → Nat → Prop
  | .leaf k v, g => Blk w g 127 (treeCells k v none none 1 1 (avLeaf k v))
  | .node a b, g => ∃ ga gb, Blk w g 127 (treeCells b.least [] (some ga) (some gb) (a.many + b.many) (1 + max a.height b.height) (avNode a.many a.sum b.many b.sum)) ∧ TreeAt w a ga ∧ TreeAt w b gb
theorem TreeAt.below {w w' : World} (hb : Below w.heap.size w w') : ∀ {t : Av} {g : Nat}, TreeAt w t g → TreeAt w' t g
  | .leaf _ _, _, h => Blk.below h hb
  | .node _ _, _, h => by
    obtain ⟨ga, gb, h1, h2, h3⟩ := h
    exact ⟨ga, gb, h1.below hb, h2.below hb, h3.below hb⟩
/-- Nothing, or a tree. -/
def TreeO (w : World) : Option Av → Value → Prop
  | none, v => v = .pointer none
  | some t, v => ∃ g, v = .pointer (some ⟨g, 0, none⟩) ∧ TreeAt w t g
theorem TreeO.below {w w' : World} (hb : Below w.heap.size w w') {t : Option Av} {v : Value} (h : TreeO w t v) : TreeO w' t v := by
  cases t with
  | none => exact h
  | some t =>
    obtain ⟨g, e, h⟩ := h
    exact ⟨g, e, h.below hb⟩
theorem hsum_to (A : Option Addr) (c m : Nat) (bs : List UInt8) (cs : List Value) (w w0 : World) (h0 : m = bs.length) (hw : Below w0.heap.size w0 w) (hc : m ≤ c) (hm : m ≤ 140737488355328) (hcs : cs = (sumF bs).map B) (hr : Rd w A (bs.map B)) (ht : TabLaid w0) :
    Calls Tryd.prog 61 #[.slice A m c] w fun e w' => e = .returned (.agg cs.toArray) ∧ Below w.heap.size w w' := by
  subst h0
  subst hcs
  exact sum_any A c bs w hc hm hr (ht.below hw ht.lt)
set_option maxRecDepth 100000 in
set_option maxHeartbeats 2000000 in
theorem avleaf_any (k v : Str) (ks vs : ByteArray) (cs : List Value) (w : World) (hk : ks = ⟨k.toArray⟩) (hv : vs = ⟨v.toArray⟩) (hcs : cs = (avLeaf k v).map B) (hkl : k.length ≤ 2000000) (hvl : v.length ≤ 2000000) (ht : TabLaid w) :
    Calls Tryd.prog 28 #[.string ks, .string vs] w fun e w' => e = .returned (.agg cs.toArray) ∧ Below w.heap.size w w' := by
  have hcl : cs.length = 32 := by rw [hcs, List.length_map, avLeaf_length]
  have hc1 : ∀ u ∈ cs, u.oneCell' = true := by rw [hcs]; exact one_bytes
  have HLL := Lib.hid (show (some 32 : Option Nat) = some cs.length by rw [hcl])
  have HT := Lib.hid (And.intro (show ks.data.toList = k by rw [hk]) (And.intro (show vs.data.toList = v by rw [hv]) (And.intro hcs (And.intro hkl (And.intro hvl ht)))))
  have HV := Lib.hid (And.intro (varint_len10 k.length (by omega)) (varint_len10 v.length (by omega)))
  clear hk hv hcs hkl hvl ht
  have hb0 : Below w.heap.size w (w.alloc (.cells (List.replicate 32 (B 0)).toArray 46)) := (Below.refl _ _).alloc (Nat.le_refl _) _
  have hz0 := Blk_new w (List.replicate 32 (B 0)) 46
  go_enter Tryd.func28, Tryd.ntmps28
  go_upto_region 1 with fail
  change Code.wp _ _ _ _ (w.alloc (.cells (List.replicate 32 (B 0)).toArray 46))
  generalize w.alloc (.cells (List.replicate 32 (B 0)).toArray 46) = w0 at *
  have ho1 := World.ownsRow_lit (base := w0.heap.size) (e := 5) (size := 1) w0 #[Value.int .u8 6] 1 (Nat.le_refl _) (by decide) rfl
  have hb1 := hb0.alloc hb0.size (.cells #[Value.int .u8 6] 5)
  have hz1 := hz0.alloc (.cells #[Value.int .u8 6] 5)
  have hlt := hz0.lt
  have hsz := hb0.size
  clear hb0 hz0
  have hs1 : w0.heap.size ≤ (w0.alloc (.cells #[Value.int .u8 6] 5)).heap.size := ((Below.refl w0.heap.size w0).alloc (Nat.le_refl _) _).size
  go_wp2_with fail
  generalize (w0.alloc (.cells #[Value.int .u8 6] 5)) = w1 at *
  have H1 := Lib.hid (And.intro hb1 (And.intro hz1 (And.intro ho1 (And.intro hsz (And.intro hlt hs1)))))
  clear hb1 hz1 ho1 hsz hlt hs1
  refine (new_any _).mono ?_
  rintro e w2 ⟨rfl, hW2, hb2⟩
  have HB2 := Lib.hid (And.intro hW2 hb2)
  clear hW2 hb2
  go_wp2_with fail
  refine (text_any ks w1.heap.size _ [] w1.heap.size w2 HB2.out.1 (by rw [HT.out.1]; have := HT.out; simp; omega)).mono ?_
  rintro e w3 ⟨rfl, v3, hW3, hx3⟩
  have H3 := Lib.hid (And.intro hW3 (HB2.out.2.trans (hx3.below (Nat.le_refl _) HB2.out.2.size (fun q e => (HB2.out.1.own.lt q e).1))))
  clear hW3 hx3
  go_wp2_with fail
  refine (text_any vs w1.heap.size v3 (textB k) w1.heap.size w3 (by have h := H3.out.1; rw [HT.out.1, List.nil_append] at h; exact h) (by rw [HT.out.2.1]; have := HT.out; have := HV.out; simp only [textB, List.length_append]; omega)).mono ?_
  rintro e w4 ⟨rfl, v4, hW4, hx4⟩
  rw [HT.out.2.1] at hW4
  have H4 := Lib.hid (And.intro (show WIs w4 w1.heap.size w1.heap.size v4 (textB k ++ textB v) from hW4) (H3.out.2.trans (hx4.below (Nat.le_refl _) H3.out.2.size (fun q e => (H3.out.1.own.lt q e).1))))
  clear hW4 hx4
  obtain ⟨N, hN⟩ : ∃ N, (textB k ++ textB v).length = N := ⟨_, rfl⟩
  have hNb : N ≤ 4000100 := by rw [← hN]; have := HT.out; have := HV.out; simp only [textB, List.length_append]; omega
  have HN := Lib.hid (And.intro hN hNb)
  clear hN hNb
  go_wp2_with fail
  refine (done_any w1.heap.size v4 (textB k ++ textB v) w1.heap.size w4 H4.out.1 (by have := HN.out; omega)).mono ?_
  rintro e w5 ⟨v5, rfl, ho5, hb5⟩
  rw [HN.out.1] at ho5
  obtain ⟨A5, c5, rfl, _, hr5, _⟩ := own_slice ho5
  have hb15 : Below w1.heap.size w1 w5 := below_then H4.out.2 H4.out.2.size hb5
  have H5 := Lib.hid (And.intro hb15 (And.intro hr5 (own_below H1.out.2.2.1 hb15)))
  clear ho5 hr5 hb5 hb15
  have HM := Lib.hid (show 1 + N ≤ maxLen ∧ (1 + N) * 1 ≤ 140737488355328 ∧ ((textB k ++ textB v).map B).length = N * 1 by have := HN.out; unfold maxLen; rw [List.length_map]; omega)
  go_wp2_with (at_builtin; refine wpList_app tBp rfl _ _ rfl w0.heap.size _ 1 [Value.int .u8 6] rfl H5.out.2.2 A5 N c5 ((textB k ++ textB v).map B) rfl H5.out.2.1 HM.out.2.2 one_bytes HM.out.1 HM.out.2.1 ?bz ?_)
  case bz => exact Nat.le_trans H1.out.2.2.2.2.2 H5.out.1.size
  intro v6 w6 ho6 hx6
  have ho6' : w6.ownsRow w0.heap.size 5 1 v6 (1 + N) ((6 :: (textB k ++ textB v)).map B) := by rw [List.map_cons, List.map_append]; exact ho6
  obtain ⟨A6, c6, rfl, hc6, hr6, _⟩ := own_slice ho6'
  have hb6 : Below w.heap.size w w6 := (below_then H1.out.1 H1.out.1.size H5.out.1).grown hx6.grown (below_then H1.out.1 H1.out.1.size H5.out.1).size (fun q e => by have := (H5.out.2.2.lt q e).1; have := H1.out.2.2.2.1; omega)
  have hz6 : Blk w6 w.heap.size 46 (List.replicate 32 (B 0)) := (H1.out.2.1.below H5.out.1).grown hx6.grown (fun e => by have := (H5.out.2.2.lt _ e).1; have := H1.out.2.2.2.2.1; omega)
  have H6 := Lib.hid (And.intro hb6 (And.intro hz6 (And.intro hr6 hc6)))
  clear ho6 ho6' hx6 hb6 hz6 hr6 hc6
  go_wp2_with fail
  refine (hsum_to A6 c6 (1 + N) (6 :: (textB k ++ textB v)) cs w6 w (by rw [List.length_cons, HN.out.1]; omega) H6.out.1 H6.out.2.2.2 (by have := HN.out; omega) HT.out.2.2.1 H6.out.2.2.1 HT.out.2.2.2.2.2).mono ?_
  rintro e w7 ⟨rfl, hb7⟩
  have H7 := Lib.hid (And.intro (below_then H6.out.1 H6.out.1.size hb7) (H6.out.2.1.below hb7))
  clear hb7
  go_wp2_with (refine wpList_store_blk rfl 46 (.tmp 4) (.tmp 13) rfl w.heap.size cs rfl rfl 46 _ H7.out.2 (Eq.trans (by kernel_rfl) HLL.out) (by rw [hcl, List.length_replicate]) hc1 ?_; intro w8 hw8 hg8)
  refine bodyPost_ret (results_blk rfl _ _ w.heap.size 46 cs _ rfl hw8 Tryd.underlying46 rfl (Eq.trans (by kernel_rfl) HLL.out)) rfl ⟨rfl, ?_⟩
  exact H7.out.1.grown hg8 H7.out.1.size (fun q e => by injection e with e; omega)
end Go.Proofs.YtdekealpachhmaaDoor
