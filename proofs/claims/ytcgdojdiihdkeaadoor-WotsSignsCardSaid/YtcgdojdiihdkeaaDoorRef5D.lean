/- Layer 5's reference: at, Public by their contracts. -/
import Derived.Test.YtcgdojdiihdkeaaDoorRef5C
namespace Go.Proofs.YtcgdojdiihdkeaaDoor
open Go Go.RowKit Go.Isth

set_option maxRecDepth 100000 in
set_option maxHeartbeats 2000000 in
theorem rat_any (seed : List UInt8) (cv0 : List Value) (leaf chain till : Int) (lf ch : Nat) (w : World) (hcv0 : cv0 = seed.map B) (hv : seed.length = 32) (hl : IntKind.u64.wrap leaf = (lf : Int)) (hlf : lf < 18446744073709551616) (hc : IntKind.u64.wrap chain = (ch : Int)) (hcf : ch < 18446744073709551616) :
    Calls Tryd.prog 76 #[.agg cv0.toArray, .int .i64 leaf, .int .i64 chain, .int .i64 till] w fun e w' => ∃ cv : List Value, e = .returned (.agg cv.toArray) ∧ cv = (stepF lf ch 0 till.toNat (firstF seed lf ch)).map B ∧ cv.length = 32 ∧ Below w.heap.size w w' := by
  have HT := Lib.hid (And.intro hv (And.intro hlf (And.intro hcf (And.intro hl (And.intro hc hcv0)))))
  have HCV := Lib.hid (And.intro hcv0 (show (some 32 : Option Nat) = some cv0.length by rw [hcv0, List.length_map, hv]))
  have HL := Lib.hid (And.intro (varint_len10 _ hlf) (varint_len10 _ hcf))
  clear hv hlf hcf hl hc hcv0
  go_enter Tryd.func76, Tryd.ntmps76
  have hz1 := (Blk_new w cv0 28).alloc (.cells (List.replicate 32 (B 0)).toArray 28)
  have hz2 := Blk_new (w.alloc (.cells cv0.toArray 28)) (List.replicate 32 (B 0)) 28
  have hb3 := ((Below.refl w.heap.size w).alloc (Nat.le_refl _) (.cells cv0.toArray 28)).alloc (by simp) (.cells (List.replicate 32 (B 0)).toArray 28)
  simp only [World.size_alloc] at hz2
  go_upto_region 1 with fail
  change Code.wp _ _ _ _ ((w.alloc (.cells cv0.toArray 28)).alloc (.cells (List.replicate 32 (B 0)).toArray 28))
  generalize ((w.alloc (.cells cv0.toArray 28)).alloc (.cells (List.replicate 32 (B 0)).toArray 28)) = w3 at *
  have hz := hz1.alloc (.cells #[B 2] 5)
  have hb4 := hb3.alloc hb3.size (.cells #[B 2] 5)
  have hy := hz2.alloc (.cells #[B 2] 5)
  have H3 := Lib.hid (And.intro hb4 hy)
  clear hz1 hz2 hb3 hb4 hy
  go_wp2_with (refine wpList_load_blk rfl 28 (.tmp 4) rfl w.heap.size rfl 28 cv0 _ hz Tryd.underlying28 rfl (Eq.trans (by kernel_rfl) HCV.out.2) ?_)
  clear hz
  refine (rhash_to (some ⟨w3.heap.size, 0, none⟩) 1 1 [2] seed cv0 _ rfl HCV.out.1 HT.out.1 (Rd_alloc _ _ _) (by omega)).mono ?_
  rintro e w4 ⟨A4, N4, c4, d4, rfl, hd4, hN4, hr4, hb4⟩
  have H4 := Lib.hid (And.intro (below_then H3.out.1 H3.out.1.size hb4) (And.intro (H3.out.2.below hb4) (And.intro hr4 (And.intro hd4 hN4))))
  have HN4 := Lib.hid (show N4 ≤ 33 by have := HT.out.1; rw [hN4, hd4]; simp; omega)
  clear hd4 hN4 hr4 hb4
  go_wp2_with fail
  refine (ruint_to A4 c4 N4 d4 lf _ w4 HT.out.2.2.2.1 H4.out.2.2.2.2 HT.out.2.1 H4.out.2.2.1 (by have := HN4.out; omega)).mono ?_
  rintro e w5 ⟨A5, N5, c5, d5, rfl, hd5, hN5, hr5, hb5⟩
  have H5 := Lib.hid (And.intro (below_then H4.out.1 H4.out.1.size hb5) (And.intro (H4.out.2.1.below hb5) (And.intro hr5 (And.intro hd5 hN5))))
  have HN5 := Lib.hid (show N5 ≤ 43 by have := HL.out; have h1 := HN4.out; have h2 := H4.out.2.2.2.2; rw [hN5, hd5]; simp; omega)
  clear hd5 hN5 hr5 hb5
  go_wp2_with fail
  refine (ruint_to A5 c5 N5 d5 ch _ w5 HT.out.2.2.2.2.1 H5.out.2.2.2.2 HT.out.2.2.1 H5.out.2.2.1 (by have := HN5.out; omega)).mono ?_
  rintro e w6 ⟨A6, N6, c6, d6, rfl, hd6, hN6, hr6, hb6⟩
  have H6 := Lib.hid (And.intro (below_then H5.out.1 H5.out.1.size hb6) (And.intro (H5.out.2.1.below hb6) (And.intro hr6 (And.intro hd6 hN6))))
  have HN6 := Lib.hid (show N6 ≤ 53 by have := HL.out; have h1 := HN5.out; have h2 := H5.out.2.2.2.2; rw [hN6, hd6]; simp; omega)
  clear hd6 hN6 hr6 hb6
  go_wp2_with fail
  refine (rsum_to A6 c6 N6 d6 w6 H6.out.2.2.2.2 H6.out.2.2.1 (by have := HN6.out; omega)).mono ?_
  rintro e w7 ⟨cv7, rfl, hcv, hcl, hb7⟩
  have hd : d6 = 2 :: (seed ++ (varint lf ++ varint ch)) := by rw [H6.out.2.2.2.1, H5.out.2.2.2.1, H4.out.2.2.2.1]; simp
  have H7 := Lib.hid (And.intro (below_then H6.out.1 H6.out.1.size hb7) (And.intro (H6.out.2.1.below hb7) (show cv7 = (firstF seed lf ch).map B by rw [hcv, hd]; rfl)))
  clear hcv hcl hb7 hd
  go_wp2_with fail
  refine (rstep_any (firstF seed lf ch) cv7 leaf chain 0 till lf ch w7 H7.out.2.2 (firstF_length _ _ _) HT.out.2.2.2.1 HT.out.2.1 HT.out.2.2.2.2.1 HT.out.2.2.1).mono ?_
  rintro e w8 ⟨cv, rfl, hcv, hcl, hb8⟩
  have hz8 := H7.out.2.1.below hb8
  have H8 := Lib.hid (And.intro (below_then H7.out.1 H7.out.1.size hb8) hcv)
  have HLL := Lib.hid (And.intro (show (some 32 : Option Nat) = some cv.length by rw [hcl]) hcl)
  have H1s := Lib.hid (show ∀ u ∈ cv, u.oneCell' = true by rw [hcv]; exact one_bytes)
  clear hcv hcl hb8
  go_wp2_with (refine wpList_store_blk rfl 28 (.tmp 8) (.tmp 24) rfl (w.heap.size + 1) cv rfl rfl 28 _ hz8 (Eq.trans (by kernel_rfl) HLL.out.1) (by rw [HLL.out.2, List.length_replicate]) H1s.out ?_; intro w10 hw10 hg10)
  refine bodyPost_ret (results_blk rfl _ _ (w.heap.size + 1) 28 cv _ rfl hw10 Tryd.underlying28 rfl (Eq.trans (by kernel_rfl) HLL.out.1)) rfl ⟨cv, rfl, H8.out.2, HLL.out.2, ?_⟩
  exact H8.out.1.grown hg10 H8.out.1.size (fun r e => by injection e with e; omega)
end Go.Proofs.YtcgdojdiihdkeaaDoor
