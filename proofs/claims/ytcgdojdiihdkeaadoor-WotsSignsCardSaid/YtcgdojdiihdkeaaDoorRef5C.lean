/- Layer 5's reference: Step by its contract. -/
import Derived.Test.YtcgdojdiihdkeaaDoorRef5B
namespace Go.Proofs.YtcgdojdiihdkeaaDoor
open Go Go.RowKit Go.Isth

def RStepInv (w : World) (lf ch f m : Nat) (v : List UInt8) (x : Value) (wr : World) : Prop :=
  ∃ q k : Nat, x = I q ∧ q = f + k ∧ k ≤ m ∧ Blk wr w.heap.size 28 ((stepsN lf ch f k v).map B) ∧ Blk wr (w.heap.size + 1) 28 (List.replicate 32 (B 0)) ∧ Below w.heap.size w wr
set_option maxRecDepth 100000 in
set_option maxHeartbeats 2000000 in
theorem rstep_any (v : List UInt8) (cv0 : List Value) (leaf chain frm till : Int) (lf ch : Nat) (w : World) (hcv0 : cv0 = v.map B) (hv : v.length = 32) (hl : IntKind.u64.wrap leaf = (lf : Int)) (hlf : lf < 18446744073709551616) (hc : IntKind.u64.wrap chain = (ch : Int)) (hcf : ch < 18446744073709551616) :
    Calls Tryd.prog 38 #[.agg cv0.toArray, .int .i64 leaf, .int .i64 chain, .int .i64 frm, .int .i64 till] w fun e w' => ∃ cv : List Value, e = .returned (.agg cv.toArray) ∧ cv = (stepF lf ch frm.toNat till.toNat v).map B ∧ cv.length = 32 ∧ Below w.heap.size w w' := by
  subst hcv0
  have HT := Lib.hid (And.intro hv (And.intro hlf (And.intro hcf (And.intro hl hc))))
  clear hv hlf hcf hl hc
  obtain ⟨f, hf⟩ : ∃ f : Nat, frm.toNat = f := ⟨_, rfl⟩
  rw [hf]
  have HF := Lib.hid (show max frm 0 = (f : Int) by omega)
  clear hf
  unfold stepF
  obtain ⟨m, hm⟩ : ∃ m, min till.toNat 15 - f = m := ⟨_, rfl⟩
  rw [hm]
  have HM := Lib.hid hm
  clear hm
  go_enter Tryd.func38, Tryd.ntmps38
  go_wp2_with fail
  have hz1 := (Blk_new w (v.map B) 28).alloc (.cells (List.replicate 32 (B 0)).toArray 28)
  have hz2 := Blk_new (w.alloc (.cells (v.map B).toArray 28)) (List.replicate 32 (B 0)) 28
  have hb3 := ((Below.refl w.heap.size w).alloc (Nat.le_refl _) (.cells (v.map B).toArray 28)).alloc (by simp) (.cells (List.replicate 32 (B 0)).toArray 28)
  change Code.wp _ _ _ _ ((w.alloc (.cells (v.map B).toArray 28)).alloc (.cells (List.replicate 32 (B 0)).toArray 28))
  simp only [World.size_alloc] at hz2
  generalize ((w.alloc (.cells (v.map B).toArray 28)).alloc (.cells (List.replicate 32 (B 0)).toArray 28)) = w3 at *
  have H3 := Lib.hid (And.intro hz1 (And.intro hz2 hb3))
  clear hz1 hz2 hb3
  go_loopw [11] (fun x wr => RStepInv w lf ch f m v x wr) (fun x _ => (15 - intOf x).toNat)
  case atStart => exact ⟨f, 0, by rw [HF.out], rfl, Nat.zero_le _, H3.out.1, H3.out.2.1, H3.out.2.2⟩
  case round =>
    obtain ⟨q, k, rfl, hq, hkm, hv, hz, hB⟩ := hrel
    have HS := Lib.hid (And.intro hkm (And.intro hv (And.intro hz (And.intro hB hq))))
    clear hkm hv hz hB hq
    by_cases hlt : k < m
    · have hk : ((q : Int) < till ∧ (q : Int) < 15) ∧ q < 15 := by have := HM.out; have := HS.out.2.2.2.2; omega
      have HK := Lib.hid hk.2
      have hk1 : decide ((q : Int) < till) = true := by simpa using hk.1.1
      have hk2 : decide ((q : Int) < 15) = true := by simpa using hk.1.2
      clear hk
      have HP := Lib.hid (u64_nat (n := q) (by have := HK.out; omega))
      have HL := Lib.hid (show (varint lf).length ≤ 10 ∧ (varint ch).length ≤ 10 ∧ (varint q).length = 1 from ⟨varint_len10 _ HT.out.2.1, varint_len10 _ HT.out.2.2.1, by have := HK.out; rw [varint_small (by omega)]; rfl⟩)
      have HV := Lib.hid (stepsN_length lf ch f k v HT.out.1)
      go_wp2_with fail
      refine (ruint_to (some ⟨wr.heap.size, 0, none⟩) 1 1 [3] lf _ _ HT.out.2.2.2.1 rfl HT.out.2.1 (Rd_alloc _ _ _) (by omega)).mono ?_
      rintro e w4 ⟨A4, N4, c4, d4, rfl, hd4, hN4, hr4, hb4⟩
      have H4 := Lib.hid (And.intro (below_then ((Below.refl wr.heap.size wr).alloc (Nat.le_refl _) _) (by simp) hb4) (And.intro hr4 (And.intro hd4 hN4)))
      have HN4 := Lib.hid (show N4 ≤ 11 by have := HL.out; rw [hN4, hd4]; simp; omega)
      clear hd4 hN4 hr4 hb4
      go_wp2_with fail
      refine (ruint_to A4 c4 N4 d4 ch _ w4 HT.out.2.2.2.2 H4.out.2.2.2 HT.out.2.2.1 H4.out.2.1 (by have := HN4.out; omega)).mono ?_
      rintro e w5 ⟨A5, N5, c5, d5, rfl, hd5, hN5, hr5, hb5⟩
      have H5 := Lib.hid (And.intro (below_then H4.out.1 H4.out.1.size hb5) (And.intro hr5 (And.intro hd5 hN5)))
      have HN5 := Lib.hid (show N5 ≤ 21 by have := HL.out; have h1 := HN4.out; have h2 := H4.out.2.2.2; rw [hN5, hd5]; simp; omega)
      clear hd5 hN5 hr5 hb5
      go_wp2_with fail
      refine (ruint_to A5 c5 N5 d5 q _ w5 HP.out H5.out.2.2.2 (by have := HK.out; omega) H5.out.2.1 (by have := HN5.out; omega)).mono ?_
      rintro e w6 ⟨A6, N6, c6, d6, rfl, hd6, hN6, hr6, hb6⟩
      have hb6' := below_then H5.out.1 H5.out.1.size hb6
      have hz6 := HS.out.2.1.below hb6'
      have H6 := Lib.hid (And.intro hb6' (And.intro hr6 (And.intro hd6 (And.intro hN6 hz6))))
      have HN6 := Lib.hid (show N6 ≤ 22 by have := HL.out; have h1 := HN5.out; have h2 := H5.out.2.2.2; rw [hN6, hd6]; simp; omega)
      clear hd6 hN6 hr6 hb6 hb6'
      generalize hst : stepsN lf ch f k v = sv at *
      have HST := Lib.hid hst
      clear hst
      have HLV := Lib.hid (show (some 32 : Option Nat) = some (sv.map B).length by rw [List.length_map, HV.out])
      obtain ⟨csv, hcsv⟩ : ∃ cs, cs = sv.map B := ⟨_, rfl⟩
      rw [← hcsv] at hz6
      have HCV := Lib.hid (And.intro hcsv (show (some 32 : Option Nat) = some csv.length by rw [hcsv]; exact HLV.out))
      clear hcsv
      go_wp2_with (refine wpList_load_blk rfl 28 (.tmp 5) rfl w.heap.size rfl 28 csv _ hz6 Tryd.underlying28 rfl (Eq.trans (by kernel_rfl) HCV.out.2) ?_)
      refine (rhash_to A6 c6 N6 d6 sv csv w6 H6.out.2.2.2.1 HCV.out.1 HV.out H6.out.2.1 (by have := HN6.out; omega)).mono ?_
      rintro e w7 ⟨A7, N7, c7, d7, rfl, hd7, hN7, hr7, hb7⟩
      have H7 := Lib.hid (And.intro (below_then H6.out.1 H6.out.1.size hb7) (And.intro hr7 (And.intro hd7 hN7)))
      have HN7 := Lib.hid (show N7 ≤ 54 by have h1 := HN6.out; have h2 := H6.out.2.2.2.1; have h3 := HV.out; rw [hN7, hd7]; simp; omega)
      clear hd7 hN7 hr7 hb7 hz6
      go_wp2_with fail
      refine (rsum_to A7 c7 N7 d7 w7 H7.out.2.2.2 H7.out.2.1 (by have := HN7.out; omega)).mono ?_
      rintro e w8 ⟨cv, rfl, hcv, hcl, hb8⟩
      have hb8' := below_then H7.out.1 H7.out.1.size hb8
      have hd : d7 = 3 :: (varint lf ++ (varint ch ++ (varint q ++ sv))) := by rw [H7.out.2.2.1, H6.out.2.2.1, H5.out.2.2.1, H4.out.2.2.1]; simp
      have HC := Lib.hid (And.intro (show cv = (stepOne lf ch q sv).map B by rw [hcv, hd]; rfl) hcl)
      have hlt1 := HS.out.2.2.2.1.size
      have hlt2 := HS.out.2.1.lt
      have hlt3 := HS.out.2.2.1.lt
      have hz8 := HS.out.2.1.below hb8'
      rw [← HCV.out.1] at hz8
      have hy8 := HS.out.2.2.1.below hb8'
      have H8 := Lib.hid (And.intro (below_then HS.out.2.2.2.1 hlt1 hb8') hy8)
      have HLL := Lib.hid (show (some 32 : Option Nat) = some cv.length by rw [hcl])
      have H1s := Lib.hid (show ∀ u ∈ cv, u.oneCell' = true by rw [hcv]; exact one_bytes)
      have HEQ := Lib.hid (show cv.length = csv.length by have h := HCV.out.2; injection h with h; omega)
      clear hcv hcl hb8 hb8' hd hlt1 hlt2 hlt3 hy8
      go_wp2_with (refine wpList_store_blk rfl 28 (.tmp 5) (.tmp 37) rfl w.heap.size cv rfl rfl 28 _ hz8 (Eq.trans (by kernel_rfl) HLL.out) HEQ.out.symm H1s.out ?_; intro w10 hw10 hg10)
      have H10 := Lib.hid (And.intro hw10 (And.intro (H8.out.1.grown hg10 H8.out.1.size (fun r e => by injection e with e; omega)) (H8.out.2.grown hg10 (by simp))))
      clear hw10 hg10 hz8
      clear hk1 hk2
      have hq15 : (q : Int) < 15 := by have := HK.out; omega
      have hwq := IntWalk.wrap64_in ((q : Int) + 1) (by omega)
      go_wp2_with fail
      go_roundw
      case rel =>
        refine ⟨q + 1, k + 1, by rw [hwq]; rfl, by have := HS.out.2.2.2.2; omega, by omega, ?_, H10.out.2.2, H10.out.2.1⟩
        have h := H10.out.1
        rw [HC.out.1, HS.out.2.2.2.2, ← HST.out] at h
        exact h
      case measure => rw [hwq]; simp [intOf]; omega
    · have hk : k = m := by have := HS.out.1; omega
      have hc : decide ((q : Int) < till) = false ∨ (decide ((q : Int) < till) = true ∧ decide ((q : Int) < 15) = false) := by
        have := HM.out; have := HS.out.2.2.2.2
        simp only [decide_eq_true_eq, decide_eq_false_iff_not]
        omega
      have HV := Lib.hid (stepsN_length lf ch f k v HT.out.1)
      subst hk
      generalize hst : stepsN lf ch f k v = sv at *
      obtain ⟨csv, hcsv⟩ : ∃ cs, cs = sv.map B := ⟨_, rfl⟩
      have hz := HS.out.2.1
      rw [← hcsv] at hz
      have HCV := Lib.hid (And.intro hcsv (show (some 32 : Option Nat) = some csv.length by rw [hcsv, List.length_map, HV.out]))
      have H1s := Lib.hid (show ∀ u ∈ csv, u.oneCell' = true by rw [hcsv]; exact one_bytes)
      have HC32 := Lib.hid (show csv.length = 32 by rw [hcsv, List.length_map, HV.out])
      clear hcsv
      rcases hc with h | ⟨h, h'⟩
      all_goals
        go_wp2_with (first
          | refine wpList_load_blk rfl 28 (.tmp 5) rfl w.heap.size rfl 28 csv _ hz Tryd.underlying28 rfl (Eq.trans (by kernel_rfl) HCV.out.2) ?_
          | (refine wpList_store_blk rfl 28 (.tmp 10) (.tmp 38) rfl (w.heap.size + 1) csv rfl rfl 28 _ HS.out.2.2.1 (Eq.trans (by kernel_rfl) HCV.out.2) (by rw [HC32.out, List.length_replicate]) H1s.out ?_; intro w10 hw10 hg10))
        refine bodyPost_ret (results_blk rfl _ _ (w.heap.size + 1) 28 csv _ rfl hw10 Tryd.underlying28 rfl (Eq.trans (by kernel_rfl) HCV.out.2)) rfl ⟨csv, rfl, by rw [hst]; exact HCV.out.1, HC32.out, ?_⟩
        exact HS.out.2.2.2.1.grown hg10 HS.out.2.2.2.1.size (fun r e => by injection e with e; omega)
end Go.Proofs.YtcgdojdiihdkeaaDoor
