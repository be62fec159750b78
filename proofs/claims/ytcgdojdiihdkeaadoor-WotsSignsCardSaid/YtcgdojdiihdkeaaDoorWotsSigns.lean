/- WotsSigns: contracts, cases, walk and card (one text: a claim holds 60 files at most). The statement holds for every input, what the program lays as it is laid. -/
import Derived.Test.YtcgdojdiihdkeaaDoorSigns
import Derived.Test.YtcgdojdiihdkeaaDoorReg
import Derived.Test.YtcgdojdiihdkeaaDoorArrC
/- WotsSigns: Public, Sign of layer 5's reference by their contracts. -/
namespace Go.Proofs.YtcgdojdiihdkeaaDoor
open Go Go.RowKit Go.Isth

set_option maxRecDepth 100000 in
set_option maxHeartbeats 1000000 in
theorem rpublic_no (csd : List Value) (leaf n : Int) (w : World) (h : Bad05 leaf n) :
    Calls Tryd.prog 50 #[.agg csd.toArray, .int .i64 leaf, .int .i64 n] w fun e w' => e = .returned (.tuple #[HV Z32, I 1]) ∧ Below w.heap.size w w' := by
  have HT := Lib.hid h
  clear h
  go_enter Tryd.func50, Tryd.ntmps50
  have hz2 := Blk_new (w.alloc (.cells csd.toArray 28)) (List.replicate 32 (B 0)) 28
  have hb0 := ((Below.refl w.heap.size w).alloc (Nat.le_refl _) (.cells csd.toArray 28)).alloc (by simp) (.cells (List.replicate 32 (B 0)).toArray 28)
  simp only [World.size_alloc] at hz2
  go_upto_region 1 with fail
  change Code.wp _ _ _ _ ((w.alloc (.cells csd.toArray 28)).alloc (.cells (List.replicate 32 (B 0)).toArray 28))
  generalize ((w.alloc (.cells csd.toArray 28)).alloc (.cells (List.replicate 32 (B 0)).toArray 28)) = w0 at *
  go_wp2_with (first
    | (go_at_call 70; refine (rcheck_no leaf n _ HT.out).mono ?_; rintro e w1 ⟨rfl, rfl⟩)
    | (refine wpList_store_blk rfl 28 (.tmp 6) (.tmp 14) rfl (w.heap.size + 1) (List.replicate 32 (B 0)) rfl rfl 28 _ hz2 (by kernel_rfl) rfl (by decide) ?_; intro w2 hw2 hg2))
  refine bodyPost_ret (results_two rfl _ _ (w.heap.size + 1) 28 (Z32.map B) _ rfl hw2 Tryd.underlying28 rfl (by kernel_rfl)) rfl ⟨rfl, ?_⟩
  exact hb0.grown hg2 hb0.size (fun k e => by injection e with e; omega)
theorem rsign_no (csd : List Value) (leaf : Int) (A : Option Addr) (n c : Nat) (w : World) (h : Bad05 leaf n) :
    Calls Tryd.prog 51 #[.agg csd.toArray, .int .i64 leaf, .slice A n c] w fun e w' => e = .returned (.tuple #[.slice none 0 0, I 1]) ∧ Below w.heap.size w w' := by
  have HT := Lib.hid h
  clear h
  go_enter Tryd.func51, Tryd.ntmps51
  have hb0 := (Below.refl w.heap.size w).alloc (Nat.le_refl _) (.cells csd.toArray 28)
  go_wp2_with (go_at_call 70; refine (rcheck_no leaf n _ HT.out).mono ?_; rintro e w1 ⟨rfl, rfl⟩)
  go_ret2
  exact ⟨rfl, hb0⟩
def RPubInv (w1 : World) (seed : List UInt8) (leaf N : Nat) (v8 v9 : Value) (wr : World) : Prop :=
  ∃ (k : Nat) (A : Option Addr) (n c : Nat), k ≤ N ∧ v9 = I k ∧ v8 = .slice A n c ∧ n = 32 * k ∧ Rd wr A ((chainsN seed leaf (List.replicate N 15) k).map B) ∧ Below w1.heap.size w1 wr
set_option maxRecDepth 100000 in
set_option maxHeartbeats 2000000 in
theorem rpublic_yes (csd : List Value) (seed : List UInt8) (leaf n : Nat) (w : World) (hcs : csd = seed.map B) (hs : seed.length = 32) (hl : leaf < 1024) (h1 : 1 ≤ n) (h2 : n ≤ 32) :
    Calls Tryd.prog 50 #[.agg csd.toArray, .int .i64 leaf, .int .i64 n] w fun e w' => e = .returned (.tuple #[HV (publicF seed leaf n), I 0]) ∧ Below w.heap.size w w' := by
  have HT := Lib.hid (And.intro hs (And.intro hl (And.intro h1 (And.intro h2 hcs))))
  have hcl : csd.length = 32 := by rw [hcs, List.length_map]; exact hs
  have hn32 : (n : Int) ≤ 32 := by omega
  have hn1 : (1 : Int) ≤ n := by omega
  clear hs hl h1 h2 hcs
  go_enter Tryd.func50, Tryd.ntmps50
  have hz1 := (Blk_new w csd 28).alloc (.cells (List.replicate 32 (B 0)).toArray 28)
  have hz2 := Blk_new (w.alloc (.cells csd.toArray 28)) (List.replicate 32 (B 0)) 28
  have hb0 := ((Below.refl w.heap.size w).alloc (Nat.le_refl _) (.cells csd.toArray 28)).alloc (by simp) (.cells (List.replicate 32 (B 0)).toArray 28)
  simp only [World.size_alloc] at hz2
  go_upto_region 1 with fail
  change Code.wp _ _ _ _ ((w.alloc (.cells csd.toArray 28)).alloc (.cells (List.replicate 32 (B 0)).toArray 28))
  generalize ((w.alloc (.cells csd.toArray 28)).alloc (.cells (List.replicate 32 (B 0)).toArray 28)) = w0 at *
  have H0 := Lib.hid (And.intro hz1 (And.intro hz2 (And.intro hb0 hz2.lt)))
  clear hz1 hz2 hb0
  go_wp2_with (go_at_call 70; refine (rcheck_yes leaf n _ (by omega) (by have := HT.out; omega) (by have := HT.out; omega) (by have := HT.out; omega)).mono ?_; rintro e w1 ⟨rfl, rfl⟩)
  obtain ⟨N, hN⟩ : ∃ N, N = 2 * n + 3 := ⟨_, rfl⟩
  have hff : publicF seed leaf n = leafF (chainsN seed leaf (List.replicate N 15) N) := by rw [hN]; rfl
  have HN := Lib.hid (And.intro hN (And.intro hff (show N ≤ 67 by omega)))
  have HI := Lib.hid (show (some 32 : Option Nat) = some csd.length by rw [hcl])
  have hNI : 2 * (n : Int) + 3 = (N : Int) := by omega
  clear hN hff
  go_loopw [8, 9] (fun v8 v9 wr => RPubInv w0 seed leaf N v8 v9 wr) (fun _ v9 _ => N - (intOf v9).toNat)
  case atStart => exact ⟨0, none, 0, 0, Nat.zero_le _, rfl, rfl, rfl, by simpa [chainsN] using Rd.nil _ _, Below.refl _ _⟩
  case round =>
    obtain ⟨k, A8, n8, c8, hk, rfl, rfl, hn8, hr8, hB⟩ := hrel
    have hz := H0.out.1.below hB
    by_cases hlt : k < N
    · have hlt2 : (k : Int) < 2 * (n : Int) + 3 := by omega
      have hch : chainsN seed leaf (List.replicate N 15) (k + 1) = chainsN seed leaf (List.replicate N 15) k ++ stepF leaf k 0 15 (firstF seed leaf k) := by
        rw [chainsN, List.getD_eq_getElem?_getD, List.getElem?_replicate, if_pos hlt]; rfl
      have hcln := chainsN_length seed leaf (List.replicate N 15) k
      have hN67 := HN.out.2.2
      have HS := Lib.hid (And.intro hr8 (And.intro hB (And.intro hch (And.intro hcln hn8))))
      clear hr8 hB hch hcln hn8
      go_wp2_with (refine wpList_load_blk rfl 28 (.tmp 3) rfl w.heap.size rfl 28 csd _ hz Tryd.underlying28 rfl (Eq.trans (by kernel_rfl) HI.out) ?_)
      refine (rat_any seed csd leaf k 15 leaf k wr HT.out.2.2.2.2 HT.out.1 (u64_nat (by have := HT.out.2.1; omega)) (by have := HT.out.2.1; omega) (u64_nat (by omega)) (by omega)).mono ?_
      rintro e w4 ⟨cv, rfl, hcv, hcl4, hb4⟩
      have H4 := Lib.hid (And.intro hcv (And.intro (below_then HS.out.2.1 HS.out.2.1.size hb4) (And.intro hb4 hcl4)))
      clear hcv hcl4 hb4 hz
      go_wp2_with fail
      refine (rhash_to A8 c8 n8 (chainsN seed leaf (List.replicate N 15) k) (stepF leaf k 0 (Int.toNat 15) (firstF seed leaf k)) cv w4 (by have := HS.out.2.2.2; omega) H4.out.1 (stepF_length _ _ _ _ _ (firstF_length _ _ _)) (HS.out.1.below H4.out.2.2.1) (by have := HS.out.2.2.2; omega)).mono ?_
      rintro e w5 ⟨A5, N5, c5, d5, rfl, hd5, hN5, hr5, hb5⟩
      have H5 := Lib.hid (And.intro (And.intro hd5 (And.intro hN5 hr5)) (below_then H4.out.2.1 H4.out.2.1.size hb5))
      clear hd5 hN5 hr5 hb5
      go_wp2_with fail
      go_roundw
      case rel =>
        have e : d5 = chainsN seed leaf (List.replicate N 15) (k + 1) := by rw [HS.out.2.2.1, H5.out.1.1]; rfl
        refine ⟨k + 1, _, _, _, hlt, by go_num, rfl, ?_, ?_, H5.out.2⟩
        · rw [H5.out.1.2.1, H5.out.1.1, List.length_append, stepF_length _ _ _ _ _ (firstF_length _ _ _)]; have := HS.out.2.2.2; omega
        · rw [← e]; exact H5.out.1.2.2
      case measure => simp [intOf]; omega
    · obtain rfl : k = N := by omega
      have hlt2 : ¬ (k : Int) < 2 * (n : Int) + 3 := by omega
      have hcln := chainsN_length seed leaf (List.replicate k 15) k
      have hff := HN.out.2.1
      have hN67 := HN.out.2.2
      generalize chainsN seed leaf (List.replicate k 15) k = bs7 at *
      have hz7 := H0.out.2.1.below hB
      have HS := Lib.hid (And.intro (below_then H0.out.2.2.1 H0.out.2.2.1.size hB) (And.intro hr8 (And.intro hcln (And.intro hff (And.intro hz7 hn8)))))
      clear hr8 hB hcln hff hz7 hlt hn8 hz
      go_wp2_with fail
      refine (rleaf_any A8 c8 n8 bs7 wr (by have := HS.out.2.2; omega) (by have := HS.out.2.2; omega) HS.out.2.1).mono ?_
      rintro e w5 ⟨cv, rfl, hcv, hcl5, hb5⟩
      have hz5 := HS.out.2.2.2.2.1.below hb5
      have H5 := Lib.hid (And.intro (below_then HS.out.1 HS.out.1.size hb5) hcv)
      have HLL := Lib.hid (And.intro (show (some 32 : Option Nat) = some cv.length by rw [hcl5]) hcl5)
      have H1s := Lib.hid (show ∀ u ∈ cv, u.oneCell' = true by rw [hcv]; exact one_bytes)
      clear hb5 hcv hcl5
      go_wp2_with (refine wpList_store_blk rfl 28 (.tmp 6) (.tmp 29) rfl (w.heap.size + 1) cv rfl rfl 28 _ hz5 (Eq.trans (by kernel_rfl) HLL.out.1) (by rw [HLL.out.2, List.length_replicate]) H1s.out ?_; intro w6 hw6 hg6)
      refine bodyPost_ret (results_two rfl _ _ (w.heap.size + 1) 28 cv _ rfl hw6 Tryd.underlying28 rfl (Eq.trans (by kernel_rfl) HLL.out.1)) rfl ⟨by rw [HS.out.2.2.2.1, H5.out.2]; rfl, ?_⟩
      exact H5.out.1.grown hg6 H5.out.1.size (fun k e => by injection e with e; omega)
def RSigInv (w1 : World) (seed : List UInt8) (leaf N : Nat) (places : List Nat) (v9 v10 : Value) (wr : World) : Prop :=
  ∃ (k : Nat) (A : Option Addr) (n c : Nat), k ≤ N ∧ v10 = I k ∧ v9 = .slice A n c ∧ n = 32 * k ∧ Rd wr A ((chainsN seed leaf places k).map B) ∧ Below w1.heap.size w1 wr
set_option maxRecDepth 100000 in
set_option maxHeartbeats 2000000 in
theorem rsign_yes (csd : List Value) (seed : List UInt8) (leaf n : Nat) (A : Option Addr) (c : Nat) (d : List UInt8) (w : World) (hcs : csd = seed.map B) (hs : seed.length = 32) (hl : leaf < 1024) (h1 : 1 ≤ n) (h2 : n ≤ 32) (hn : d.length = n) (hr : Rd w A (d.map B)) :
    Calls Tryd.prog 51 #[.agg csd.toArray, .int .i64 leaf, .slice A n c] w fun e w' => ∃ A' c', e = .returned (.tuple #[.slice A' (32 * (2 * n + 3)) c', I 0]) ∧ Rd w' A' ((signF seed leaf d).map B) ∧ Below w.heap.size w w' := by
  subst hn
  have HT := Lib.hid (And.intro hs (And.intro hl (And.intro h1 (And.intro h2 (And.intro hcs hr)))))
  have hcl : csd.length = 32 := by rw [hcs, List.length_map]; exact hs
  clear hs hl h1 h2 hcs hr
  go_enter Tryd.func51, Tryd.ntmps51
  have hz1 := Blk_new w csd 28
  have hb0 := (Below.refl w.heap.size w).alloc (Nat.le_refl _) (.cells csd.toArray 28)
  go_upto_region 1 with fail
  change Code.wp _ _ _ _ (w.alloc (.cells csd.toArray 28))
  generalize (w.alloc (.cells csd.toArray 28)) = w0 at *
  go_wp2_with (go_at_call 70; refine (rcheck_yes leaf d.length _ (by omega) (by have := HT.out; omega) (by have := HT.out; omega) (by have := HT.out; omega)).mono ?_; rintro e w1 ⟨rfl, rfl⟩)
  refine (rdigits_any A c d w0 (by have := HT.out; omega) (by have := HT.out; omega) (HT.out.2.2.2.2.2.below hb0)).mono ?_
  rintro e w1 ⟨v1, rfl, ho1, hb1⟩
  have hdl := digitsW_length d
  have hff : signF seed leaf d = chainsN seed leaf (digitsW d) (2 * d.length + 3) := rfl
  obtain ⟨N, hN⟩ : ∃ N, N = 2 * d.length + 3 := ⟨_, rfl⟩
  rw [← hN] at hdl hff
  rw [hdl] at ho1
  have HNN := Lib.hid hN
  obtain ⟨A1, c1, rfl, _, hrd1, _⟩ := own_slice ho1
  generalize digitsW d = places at *
  have hB1 := below_then hb0 hb0.size hb1
  have hz := hz1.below hb1
  have H1 := Lib.hid (And.intro hB1 (And.intro hz (And.intro hrd1 (And.intro hdl (And.intro hff (show N ≤ 67 by have := HT.out; omega))))))
  have hN67 : N ≤ 67 := H1.out.2.2.2.2.2
  have hi28 : (Tryd.prog.info? 28).map (·.size) = some csd.length := by rw [hcl]; kernel_rfl
  have hu28 := Tryd.underlying28
  clear hb0 hb1 hz1 hz hB1 ho1 hrd1 hdl hff
  clear hN
  go_wp2_with fail
  go_loopw [9, 10] (fun v9 v10 wr => RSigInv w1 seed leaf N places v9 v10 wr) (fun _ v10 _ => N - (intOf v10).toNat)
  case atStart => exact ⟨0, none, 0, 0, Nat.zero_le _, rfl, rfl, rfl, by simpa [chainsN] using Rd.nil _ _, Below.refl _ _⟩
  case round =>
    obtain ⟨k, A9, n9, c9, hk, rfl, rfl, hn9, hr9, hB⟩ := hrel
    by_cases hlt : k < N
    · obtain ⟨p, hp⟩ : ∃ p, places[k]? = some p := ⟨_, List.getElem?_eq_getElem (by rw [H1.out.2.2.2.1]; exact hlt)⟩
      obtain ⟨b, o, rfl, hb, hcell⟩ := H1.out.2.2.1.at_ (by rw [List.length_map, H1.out.2.2.2.1]; omega)
      have HCELL : Hid (∀ wx, Below w1.heap.size w1 wx → wx.cell? ⟨b, o + k, none⟩ = some (I p)) := Lib.hid (fun wx hx => by
        have h := hcell k (by rw [List.length_map, H1.out.2.2.2.1]; exact hlt)
        rw [hx.cell (p := ⟨b, o + k, none⟩) hb, h]
        have := (List.getElem?_eq_some_iff.1 hp).2
        simp [this])
      have HRG : Hid (∀ wx, Below w1.heap.size w1 wx → wx.rangeAt w.heap.size 0 csd) := Lib.hid (fun wx hx j v hv => by rw [Nat.zero_add]; exact (H1.out.2.1.below hx).cellD j v hv)
      have hch : chainsN seed leaf places (k + 1) = chainsN seed leaf places k ++ stepF leaf k 0 p (firstF seed leaf k) := by
        rw [chainsN, List.getD_eq_getElem?_getD, hp]; rfl
      have hcln := chainsN_length seed leaf places k
      have HS := Lib.hid (And.intro hr9 (And.intro hB (And.intro hch (And.intro hcln hn9))))
      clear hr9 hB hch hcln hn9 hp hcell hb
      have hkN : (k : Int) < 67 := by omega
      go_wp2_with fail
      have HBd : Hid (Below w1.heap.size w1 wr.drew) := Lib.hid HS.out.2.1.drew
      go_region_held3 (fun w' => w'.cell? ⟨b, o + k, none⟩ = some (I p) ∧ w'.rangeAt w.heap.size 0 csd)
        (first | exact ⟨HCELL.out _ HBd.out, HRG.out _ HBd.out⟩ | exact ⟨HCELL.out _ H4.out.2.1, HRG.out _ H4.out.2.1⟩ | exact ⟨HCELL.out _ H5.out.2, HRG.out _ H5.out.2⟩)
        (first
          | (go_at_call 76; refine (rat_any seed csd leaf k p leaf k wr.drew HT.out.2.2.2.2.1 HT.out.1 (u64_nat (by have := HT.out.2.1; omega)) (by have := HT.out.2.1; omega) (u64_nat (by omega)) (by omega)).mono ?_
             rintro e w4 ⟨cv, rfl, hcv, hcl4, hb4⟩
             have H4 := Lib.hid (And.intro hcv (And.intro (below_then HBd.out HBd.out.size hb4) (And.intro hb4 hcl4)))
             clear hcv hcl4 hb4)
          | (go_at_call 71; refine (rhash_to A9 c9 n9 (chainsN seed leaf places k) (stepF leaf k 0 (p : Int).toNat (firstF seed leaf k)) cv w4 (by have := HS.out.2.2.2; omega) H4.out.1 (stepF_length _ _ _ _ _ (firstF_length _ _ _)) (HS.out.1.drew.below H4.out.2.2.1) (by have := HS.out.2.2.2; omega)).mono ?_
             rintro e w5 ⟨A5, N5, c5, d5, rfl, hd5, hN5, hr5, hb5⟩
             have H5 := Lib.hid (And.intro (And.intro hd5 (And.intro hN5 hr5)) (below_then H4.out.2.1 H4.out.2.1.size hb5))
             clear hd5 hN5 hr5 hb5))
      go_wp2_with fail
      go_roundw
      case rel =>
        have e : d5 = chainsN seed leaf places (k + 1) := by rw [HS.out.2.2.1, H5.out.1.1]; rfl
        refine ⟨k + 1, _, _, _, hlt, by go_num, rfl, ?_, ?_, H5.out.2⟩
        · rw [H5.out.1.2.1, H5.out.1.1, List.length_append, stepF_length _ _ _ _ _ (firstF_length _ _ _)]; have := HS.out.2.2.2; omega
        · rw [← e]; exact H5.out.1.2.2
      case measure => simp [intOf]; omega
    · obtain rfl : k = N := by omega
      have hff := H1.out.2.2.2.2.1
      have HS := Lib.hid (And.intro hr9 (And.intro (below_then H1.out.1 H1.out.1.size hB) hff))
      clear hr9 hB hff
      subst hn9
      go_wp2_with fail
      go_ret2
      exact ⟨A9, c9, by rw [← HNN.out]; rfl, by rw [HS.out.2.2]; exact HS.out.1, HS.out.2.1⟩
end Go.Proofs.YtcgdojdiihdkeaaDoor

/- WotsSigns: the contracts' cases. -/
namespace Go.Proofs.YtcgdojdiihdkeaaDoor
open Go Go.RowKit Go.Isth

/-- What a failed or a good call leaves as its error. -/
def NumIs (w : World) (v : Value) (k : Nat) : Prop := (k = 0 ∧ v = .nilIface) ∨ FaultIs w v (k : Int)
theorem NumIs.below {w w' : World} {v : Value} {k : Nat} (h : NumIs w v k) (hb : Below w.heap.size w w') : NumIs w' v k := h.imp id (fun h => h.below hb)
theorem num05_all (v : Value) (k : Nat) (w : World) (h : NumIs w v k) (hg : TypeLaid w) : Calls Tryd.prog 39 #[v] w fun e w' => e = .returned (I k) ∧ Below w.heap.size w w' := by
  rcases h with ⟨rfl, rfl⟩ | h
  · exact num05_nil w
  · exact num05_any v k w h hg
theorem good05 {leaf : Int} {n : Nat} (h : ¬ Bad05 leaf n) : ∃ l : Nat, leaf = (l : Int) ∧ l < 1024 ∧ 1 ≤ n ∧ n ≤ 32 := by
  unfold Bad05 at h
  exact ⟨leaf.toNat, by omega, by omega, by omega, by omega⟩
def DigIs (n : Int) (text o : List UInt8) (k : Nat) : Prop :=
  ((n < 1 ∨ 32 < n) ∧ o = [] ∧ k = 1) ∨ ((1 ≤ n ∧ n ≤ 32) ∧ o = (sumF (4 :: text)).take n.toNat ∧ k = 0)
theorem DigIs.any (n : Int) (text : List UInt8) : ∃ o k, DigIs n text o k := by
  by_cases h : 1 ≤ n ∧ n ≤ 32
  · exact ⟨_, _, .inr ⟨h, rfl, rfl⟩⟩
  · exact ⟨_, _, .inl ⟨by omega, rfl, rfl⟩⟩
def PubIs (leaf : Int) (n : Nat) (seed o : List UInt8) (k : Nat) : Prop :=
  (Bad05 leaf n ∧ o = Z32 ∧ k = 1) ∨ (¬ Bad05 leaf n ∧ o = publicF seed leaf.toNat n ∧ k = 0)
theorem PubIs.any (leaf : Int) (n : Nat) (seed : List UInt8) : ∃ o k, PubIs leaf n seed o k := by
  by_cases h : Bad05 leaf n
  · exact ⟨_, _, .inl ⟨h, rfl, rfl⟩⟩
  · exact ⟨_, _, .inr ⟨h, rfl, rfl⟩⟩
theorem PubIs.length {leaf : Int} {n : Nat} {seed o : List UInt8} {k : Nat} (h : PubIs leaf n seed o k) : o.length = 32 := by
  rcases h with ⟨_, rfl, _⟩ | ⟨_, rfl, _⟩
  · rfl
  · exact publicF_length _ _ _
def SigIs (leaf : Int) (n : Nat) (seed d o : List UInt8) (k : Nat) : Prop :=
  (Bad05 leaf n ∧ o = [] ∧ k = 1) ∨ (¬ Bad05 leaf n ∧ o = signF seed leaf.toNat d ∧ k = 0)
theorem SigIs.any (leaf : Int) (n : Nat) (seed d : List UInt8) : ∃ o k, SigIs leaf n seed d o k := by
  by_cases h : Bad05 leaf n
  · exact ⟨_, _, .inl ⟨h, rfl, rfl⟩⟩
  · exact ⟨_, _, .inr ⟨h, rfl, rfl⟩⟩
def DigsIs (n : Nat) (d : List UInt8) (L : List Nat) : Prop := ((n < 1 ∨ 32 < n) ∧ L = []) ∨ ((1 ≤ n ∧ n ≤ 32) ∧ L = digitsW d)
theorem DigsIs.any (n : Nat) (d : List UInt8) : ∃ L, DigsIs n d L := by
  by_cases h : 1 ≤ n ∧ n ≤ 32
  · exact ⟨_, .inr ⟨h, rfl⟩⟩
  · exact ⟨_, .inl ⟨by omega, rfl⟩⟩
theorem DigsIs.length {n : Nat} {d : List UInt8} {L : List Nat} (h : DigsIs n d L) (hn : d.length = n) : L.length ≤ 67 := by
  rcases h with ⟨_, rfl⟩ | ⟨h, rfl⟩
  · simp
  · rw [digitsW_length]; omega
theorem wdig_all (A : Option Addr) (m c L k : Nat) (n : Int) (text o : List UInt8) (w w0 : World) (hD : DigIs n text o k) (hL : o.length = L) (hm : text.length = m) (hmb : m ≤ 140737488351232) (hr : Rd w A (text.map B)) (hw : Below w0.heap.size w0 w) (ht : TabLaid w0) :
    Calls Tryd.prog 48 #[.slice A m c, .int .i64 n] w fun e w' => ∃ A' c' v, e = .returned (.tuple #[.slice A' L c', v]) ∧ Rd w' A' (o.map B) ∧ NumIs w' v k ∧ Below w.heap.size w w' := by
  rcases hD with ⟨h, rfl, rfl⟩ | ⟨h, rfl, rfl⟩
  · subst hL
    exact (wdigest_no A m c n w h).mono (by rintro e w' ⟨v, rfl, hf, hb⟩; exact ⟨none, 0, v, rfl, by simpa using Rd.nil _ _, .inr hf, hb⟩)
  · obtain ⟨j, rfl⟩ := Int.eq_ofNat_of_zero_le (show 0 ≤ n by omega)
    have hj : L = j := by rw [← hL, List.length_take, sumF_length]; show min j 32 = j; omega
    subst hj
    exact (wdigest_yes A m c L text w hm.symm hmb (by omega) (by omega) hr (ht.below hw ht.lt)).mono (by rintro e w' ⟨A', c', rfl, hr', hb⟩; exact ⟨A', c', _, rfl, hr', .inl ⟨rfl, rfl⟩, hb⟩)
theorem rdig_all (A : Option Addr) (m c L k : Nat) (n : Int) (text o : List UInt8) (w : World) (hD : DigIs n text o k) (hL : o.length = L) (hm : text.length = m) (hmb : m ≤ 140737488351232) (hr : Rd w A (text.map B)) :
    Calls Tryd.prog 49 #[.slice A m c, .int .i64 n] w fun e w' => ∃ A' c', e = .returned (.tuple #[.slice A' L c', I k]) ∧ Rd w' A' (o.map B) ∧ Below w.heap.size w w' := by
  rcases hD with ⟨h, rfl, rfl⟩ | ⟨h, rfl, rfl⟩
  · subst hL
    exact (rdigest_no A m c n w h).mono (by rintro e w' ⟨rfl, rfl⟩; exact ⟨none, 0, rfl, by simpa using Rd.nil _ _, Below.refl _ _⟩)
  · obtain ⟨j, rfl⟩ := Int.eq_ofNat_of_zero_le (show 0 ≤ n by omega)
    have hj : L = j := by rw [← hL, List.length_take, sumF_length]; show min j 32 = j; omega
    subst hj
    exact (rdigest_yes A m c L text w hm.symm hmb (by omega) (by omega) hr).mono (by rintro e w' ⟨A', c', rfl, hr', hb⟩; exact ⟨A', c', rfl, hr', hb⟩)
theorem wpub_all (csd csp : List Value) (seed o : List UInt8) (leaf : Int) (n k : Nat) (w w0 : World) (hP : PubIs leaf n seed o k) (hcs : csd = seed.map B) (hcp : csp = o.map B) (hs : seed.length = 32) (hw : Below w0.heap.size w0 w) (ht : TabLaid w0) :
    Calls Tryd.prog 21 #[.agg csd.toArray, .int .i64 leaf, .int .i64 n] w fun e w' => ∃ v, e = .returned (.tuple #[.agg csp.toArray, v]) ∧ NumIs w' v k ∧ Below w.heap.size w w' := by
  subst hcp
  rcases hP with ⟨h, rfl, rfl⟩ | ⟨h, rfl, rfl⟩
  · exact (public_no' csd seed leaf n w hcs hs h).mono (by rintro e w' ⟨v, rfl, hf, hb⟩; exact ⟨v, rfl, .inr hf, hb⟩)
  · obtain ⟨l, rfl, h1, h2, h3⟩ := good05 h
    exact (public_yes' csd _ seed l n w w0 hcs rfl hs h1 h2 h3 hw ht).mono (by rintro e w' ⟨rfl, hb⟩; exact ⟨_, rfl, .inl ⟨rfl, rfl⟩, hb⟩)
theorem rpub_all (csd csp : List Value) (seed o : List UInt8) (leaf : Int) (n k : Nat) (w : World) (hP : PubIs leaf n seed o k) (hcs : csd = seed.map B) (hcp : csp = o.map B) (hs : seed.length = 32) :
    Calls Tryd.prog 50 #[.agg csd.toArray, .int .i64 leaf, .int .i64 n] w fun e w' => e = .returned (.tuple #[.agg csp.toArray, I k]) ∧ Below w.heap.size w w' := by
  subst hcp
  rcases hP with ⟨h, rfl, rfl⟩ | ⟨h, rfl, rfl⟩
  · exact rpublic_no csd leaf n w h
  · obtain ⟨l, rfl, h1, h2, h3⟩ := good05 h
    exact rpublic_yes csd seed l n w hcs hs h1 h2 h3
theorem wsig_all (csd : List Value) (seed d o : List UInt8) (leaf : Int) (A : Option Addr) (n c k M : Nat) (w w0 : World) (hP : SigIs leaf n seed d o k) (hM : o.length = M) (hcs : csd = seed.map B) (hn : d.length = n) (hs : seed.length = 32) (hr : Rd w A (d.map B)) (hw : Below w0.heap.size w0 w) (ht : TabLaid w0) :
    Calls Tryd.prog 19 #[.agg csd.toArray, .int .i64 leaf, .slice A n c] w fun e w' => ∃ A' c' v, e = .returned (.tuple #[.slice A' M c', v]) ∧ Rd w' A' (o.map B) ∧ NumIs w' v k ∧ Below w.heap.size w w' := by
  rcases hP with ⟨h, rfl, rfl⟩ | ⟨h, rfl, rfl⟩
  · subst hM
    exact (sign_no' csd seed leaf A n c w hcs h).mono (by rintro e w' ⟨v, rfl, hf, hb⟩; exact ⟨none, 0, v, rfl, by simpa using Rd.nil _ _, .inr hf, hb⟩)
  · obtain ⟨l, rfl, h1, h2, h3⟩ := good05 h
    rw [signF_length, hn] at hM
    subst hM
    refine (sign_yes' csd seed l n A c d w w0 hcs hn hs h1 h2 h3 hr hw ht).mono ?_
    rintro e w' ⟨v, rfl, ho, hb⟩
    obtain ⟨A', c', rfl, _, hr', _⟩ := own_slice ho
    exact ⟨A', c', _, rfl, hr', .inl ⟨rfl, rfl⟩, hb⟩
theorem rsig_all (csd : List Value) (seed d o : List UInt8) (leaf : Int) (A : Option Addr) (n c k M : Nat) (w : World) (hP : SigIs leaf n seed d o k) (hM : o.length = M) (hcs : csd = seed.map B) (hn : d.length = n) (hs : seed.length = 32) (hr : Rd w A (d.map B)) :
    Calls Tryd.prog 51 #[.agg csd.toArray, .int .i64 leaf, .slice A n c] w fun e w' => ∃ A' c', e = .returned (.tuple #[.slice A' M c', I k]) ∧ Rd w' A' (o.map B) ∧ Below w.heap.size w w' := by
  rcases hP with ⟨h, rfl, rfl⟩ | ⟨h, rfl, rfl⟩
  · subst hM
    exact (rsign_no csd leaf A n c w h).mono (by rintro e w' ⟨rfl, hb⟩; exact ⟨none, 0, rfl, by simpa using Rd.nil _ _, hb⟩)
  · obtain ⟨l, rfl, h1, h2, h3⟩ := good05 h
    rw [signF_length, hn] at hM
    subst hM
    exact rsign_yes csd seed l n A c d w hcs hs h1 h2 h3 hn hr
theorem wdigs_all (A : Option Addr) (n c K : Nat) (d : List UInt8) (L : List Nat) (w : World) (hD : DigsIs n d L) (hK : L.length = K) (hn : d.length = n) (hr : Rd w A (d.map B)) :
    Calls Tryd.prog 25 #[.slice A n c] w fun e w' => ∃ A' c', e = .returned (.slice A' K c') ∧ Rd w' A' (L.map I) ∧ Below w.heap.size w w' := by
  rcases hD with ⟨h, rfl⟩ | ⟨h, rfl⟩
  · subst hK
    exact (digits_none A c n w h).mono (by rintro e w' ⟨rfl, rfl⟩; exact ⟨none, 0, rfl, by simpa using Rd.nil _ _, Below.refl _ _⟩)
  · rw [digitsW_length, hn] at hK
    refine (digits_to A c n K d w hn hK.symm h.1 h.2 hr).mono ?_
    rintro e w' ⟨v, rfl, ho, hb⟩
    obtain ⟨A', c', rfl, _, hr', _⟩ := own_slice ho
    exact ⟨A', c', rfl, hr', hb⟩
theorem rdigs_all (A : Option Addr) (n c K : Nat) (d : List UInt8) (L : List Nat) (w : World) (hD : DigsIs n d L) (hK : L.length = K) (hn : d.length = n) (hr : Rd w A (d.map B)) :
    Calls Tryd.prog 53 #[.slice A n c] w fun e w' => ∃ A' c', e = .returned (.slice A' K c') ∧ Rd w' A' (L.map I) ∧ Below w.heap.size w w' := by
  rcases hD with ⟨h, rfl⟩ | ⟨h, rfl⟩
  · subst hK
    exact (rdigits_none A c n w h).mono (by rintro e w' ⟨rfl, rfl⟩; exact ⟨none, 0, rfl, by simpa using Rd.nil _ _, Below.refl _ _⟩)
  · subst hn
    subst hK
    refine (rdigits_any A c d w h.1 h.2 hr).mono ?_
    rintro e w' ⟨v, rfl, ho, hb⟩
    obtain ⟨A', c', rfl, _, hr', _⟩ := own_slice ho
    exact ⟨A', c', rfl, hr', hb⟩
theorem wlen_all (n K : Nat) (d : List UInt8) (L : List Nat) (w : World) (hD : DigsIs n d L) (hK : L.length = K) (hn : d.length = n) :
    Calls Tryd.prog 24 #[.int .i64 n] w fun e w' => e = .returned (.int .i64 (K : Int)) ∧ w = w' := by
  rcases hD with ⟨h, rfl⟩ | ⟨h, rfl⟩
  · subst hK
    exact len_no n w (by omega)
  · rw [digitsW_length, hn] at hK
    have h := len_yes (n : Int) w (by omega) (by omega)
    rw [show 2 * (n : Int) + 3 = (K : Int) by omega] at h
    exact h
end Go.Proofs.YtcgdojdiihdkeaaDoor

/- WotsSigns: the walk. -/
namespace Go.Proofs.YtcgdojdiihdkeaaDoor
open Go Go.RowKit Go.Isth

theorem convS (A : Option Addr) (c n : Nat) (bs : List UInt8) (s : ByteArray) (w : World) (hn : bs.length = n) (hs : s = ⟨bs.toArray⟩) (hr : Rd w A (bs.map B)) : (convert 22 9 (.slice A n c)).run Tryd.prog w = .ok (.string s) w := by
  subst hs
  exact run_str Tryd.underlying22 Tryd.underlying5 Tryd.underlying9 A n c bs w hn.symm hr
/-- What stands all along. -/
structure GoodS (w : World) (p : Nat) (csd : List Value) (leaf : Int) (sl : Value) (wc : World) : Prop where
  cs : CaseAt wc p csd leaf sl
  lt : p < wc.heap.size
  bl : Below w.heap.size w wc
theorem GoodS.below {w wc w' : World} {p : Nat} {csd : List Value} {leaf : Int} {sl : Value} (h : GoodS w p csd leaf sl wc) (hb : Below wc.heap.size wc w') : GoodS w p csd leaf sl w' :=
  ⟨h.cs.below hb h.lt, Nat.lt_of_lt_of_le h.lt hb.size, below_then h.bl h.bl.size hb⟩
set_option maxRecDepth 100000 in
set_option maxHeartbeats 4000000 in
theorem signs_any (seed : List UInt8) (leaf z : Int) (n m : Nat) (A Ao : Option Addr) (c co : Nat) (d text : List UInt8) (w : World) (hs : seed.length = 32) (hn : d.length = n) (hm : text.length = m) (hco : m ≤ co) (hnb : n ≤ 140737488351232) (hmb : m ≤ 140737488351232) (hr : Rd w A (d.map B)) (hro : Rd w Ao (text.map B)) (ht : TabLaid w) (htl : TypeLaid w) :
    Calls Tryd.prog 12 #[.agg (caseCells seed leaf (.slice A n c)).toArray, .slice Ao m co, .int .i64 z] w fun e w' => e = .returned (.bool true) ∧ Below w.heap.size w w' := by
  have HT := Lib.hid (And.intro hs (And.intro hn (And.intro hm (And.intro hco (And.intro (show n ≤ 140737488355328 by omega) (And.intro hmb (And.intro hr hro)))))))
  have ht : Hid (TabLaid w ∧ TypeLaid w) := Lib.hid ⟨ht, htl⟩
  clear hs hn hm hco hnb hmb hr hro htl
  obtain ⟨od, kd, hD⟩ := DigIs.any z text
  obtain ⟨op, kp, hP⟩ := PubIs.any leaf n seed
  obtain ⟨os, ks, hS⟩ := SigIs.any leaf n seed d
  obtain ⟨L, hL⟩ := DigsIs.any n d
  obtain ⟨ld, hld⟩ : ∃ ld, od.length = ld := ⟨_, rfl⟩
  obtain ⟨ls, hls⟩ : ∃ ls, os.length = ls := ⟨_, rfl⟩
  obtain ⟨KL, hK⟩ : ∃ K, L.length = K := ⟨_, rfl⟩
  obtain ⟨sd, hsd⟩ : ∃ s : ByteArray, s = ⟨od.toArray⟩ := ⟨_, rfl⟩
  obtain ⟨ss, hss⟩ : ∃ s : ByteArray, s = ⟨os.toArray⟩ := ⟨_, rfl⟩
  have HK := Lib.hid (And.intro hld (And.intro hls (And.intro hK (show KL ≤ 67 by have := hL.length HT.out.2.1; omega))))
  have hpl0 := hP.length
  have HD := Lib.hid (And.intro hD (And.intro hP (And.intro hS (And.intro hL (And.intro hsd hss)))))
  clear hld hls hK hD hP hS hL hsd hss
  obtain ⟨csd, hcsd⟩ : ∃ cs, cs = seed.map B := ⟨_, rfl⟩
  obtain ⟨csp, hcsp⟩ : ∃ cs, cs = op.map B := ⟨_, rfl⟩
  go_enter Tryd.func12, Tryd.ntmps12
  have hz0 := CaseAt.of_blk (Blk_new w (caseCells seed leaf (.slice A n c)) 34) HT.out.1
  have hb0 : Below w.heap.size w (w.alloc (.cells (caseCells seed leaf (.slice A n c)).toArray 34)) := (Below.refl _ _).alloc (Nat.le_refl _) _
  have hlt0 : w.heap.size < (w.alloc (.cells (caseCells seed leaf (.slice A n c)).toArray 34)).heap.size := by simp
  have hG : GoodS w w.heap.size (seed.map B) leaf (.slice A n c) (w.alloc (.cells (caseCells seed leaf (.slice A n c)).toArray 34)) := ⟨hz0, hlt0, hb0⟩
  clear hz0 hb0 hlt0
  go_upto_region 1 with fail
  change Code.wp _ _ _ _ (w.alloc (.cells (caseCells seed leaf (.slice A n c)).toArray 34))
  generalize (w.alloc (.cells (caseCells seed leaf (.slice A n c)).toArray 34)) = w0 at *
  rw [← hcsd] at hG
  have hcl : csd.length = 32 := by rw [hcsd, List.length_map]; exact HT.out.1
  have hpl : csp.length = 32 := by rw [hcsp, List.length_map]; exact hpl0
  have hp1 : ∀ u ∈ csp, u.oneCell' = true := by rw [hcsp]; exact one_bytes
  have hi28 : (Tryd.prog.info? 28).map (·.size) = some csd.length := by rw [hcl]; kernel_rfl
  have hip : (Tryd.prog.info? 28).map (·.size) = some csp.length := by rw [hpl]; kernel_rfl
  have hu28 := Tryd.underlying28
  have heq : ∀ wx, (binOp .eql 28 (.agg csp.toArray) (.agg csp.toArray)).run Tryd.prog wx = .ok (.bool true) wx := by
    intro wx
    have h := run_eql_bytes aHash5 wx _ _ hpl0 hpl0
    rw [← hcsp] at h
    simpa using h
  have HCS := Lib.hid (And.intro hcsd hcsp)
  have HG := Lib.hid hG
  have HIP := Lib.hid (show (some 32 : Option Nat) = some csp.length by rw [hpl])
  have HLDF : Hid (∀ wx, GoodS w w.heap.size csd leaf (.slice A n c) wx → (loadVar 28 ⟨w.heap.size, 0, none⟩).run Tryd.prog wx = .ok (.agg csd.toArray) wx) := Lib.hid (fun wx hG => run_load_agg (P := Tryd.prog) hu28 rfl hi28 wx ⟨w.heap.size, 0, none⟩ csd rfl (fun j u hj => by rw [add_plain]; exact hG.cs.rg j u hj))
  clear hcsd hcsp hG hpl0
  go_wp2_with fail
  refine (twin_to Ao co m text w0 w HT.out.2.2.1 (by have := HT.out.2.2.2.2.2.1; omega) HT.out.2.2.2.2.2.2.2 HG.out.bl).mono ?_
  rintro e w1 ⟨v1, rfl, ho1, hb1⟩
  obtain ⟨A1, c1, rfl, _, hr1, _⟩ := own_slice ho1
  have H1 := Lib.hid (And.intro (HG.out.below hb1) hr1)
  clear ho1 hb1 hr1
  go_wp2_with fail
  refine (wdig_all A1 m c1 ld kd z text od w1 w HD.out.1 HK.out.1 HT.out.2.2.1 HT.out.2.2.2.2.2.1 H1.out.2 H1.out.1.bl ht.out.1).mono ?_
  rintro e w2 ⟨A7, c7, v8, rfl, hr7, hn8, hb2⟩
  have H2 := Lib.hid (And.intro (H1.out.1.below hb2) (And.intro hr7 hn8))
  clear hb2 hr7 hn8
  go_wp2_with fail
  refine (rdig_all Ao m co ld kd z text od w2 HD.out.1 HK.out.1 HT.out.2.2.1 HT.out.2.2.2.2.2.1 (HT.out.2.2.2.2.2.2.2.below H2.out.1.bl)).mono ?_
  rintro e w3 ⟨A9, c9, rfl, hr9, hb3⟩
  have H3 := Lib.hid (And.intro (H2.out.1.below hb3) (And.intro (H2.out.2.1.below hb3) (And.intro (H2.out.2.2.below hb3) hr9)))
  have e32 := H3.out.1.cs.leaf
  have e33 := H3.out.1.cs.sl
  clear hb3 hr9
  go_wp2_with (refine wpList_load rfl (.tmp 33) rfl _ _ rfl (HLDF.out _ H3.out.1) ?_)
  refine (wpub_all csd csp seed op leaf n kp w3 w HD.out.2.1 HCS.out.1 HCS.out.2 HT.out.1 H3.out.1.bl ht.out.1).mono ?_
  rintro e w4 ⟨v12, rfl, hn12, hb4⟩
  have H4 := Lib.hid (And.intro (H3.out.1.below hb4) (And.intro (H3.out.2.1.below hb4) (And.intro (H3.out.2.2.1.below hb4) (And.intro (H3.out.2.2.2.below hb4) hn12))))
  clear hb4 hn12 e32 e33
  go_wp2_with (first
    | (refine wpList_store_blk rfl 28 (.tmp 11) (.tmp 41) rfl w4.heap.size csp rfl rfl 28 _ (heap_alloc_new w4 _) (Eq.trans (by kernel_rfl) HIP.out) (by rw [hpl]; rfl) hp1 ?_; intro w5 hw5 hg5
       have hb5 : Below w4.heap.size w4 w5 := ((Below.refl w4.heap.size w4).alloc (Nat.le_refl _) _).grown hg5 (by simp) (fun r e => by injection e with e; omega)
       have H5 := Lib.hid (And.intro (H4.out.1.below hb5) (And.intro (H4.out.2.1.below hb5) (And.intro (H4.out.2.2.1.below hb5) (And.intro (H4.out.2.2.2.1.below hb5) (And.intro (H4.out.2.2.2.2.below hb5) hw5)))))
       have e32 := H5.out.1.cs.leaf
       have e33 := H5.out.1.cs.sl
       clear hw5 hg5 hb5)
    | (refine wpList_load rfl (.tmp 44) rfl _ _ rfl (HLDF.out _ H5.out.1) ?_))
  generalize w4.heap.size = g11 at *
  refine (rpub_all csd csp seed op leaf n kp w5 HD.out.2.1 HCS.out.1 HCS.out.2 HT.out.1).mono ?_
  rintro e w6 ⟨rfl, hb6⟩
  have H6 := Lib.hid (And.intro (H5.out.1.below hb6) (And.intro (H5.out.2.1.below hb6) (And.intro (H5.out.2.2.1.below hb6) (And.intro (H5.out.2.2.2.1.below hb6) (And.intro (H5.out.2.2.2.2.1.below hb6) (H5.out.2.2.2.2.2.below hb6))))))
  clear hb6 e32 e33
  go_upto_region 5 with (refine wpList_store_blk rfl 28 (.tmp 13) (.tmp 52) rfl w6.heap.size csp rfl rfl 28 _ (heap_alloc_new w6 _) (Eq.trans (by kernel_rfl) HIP.out) (by rw [hpl]; rfl) hp1 ?_; intro w7 hw7 hg7)
  have hb7 : Below w6.heap.size w6 w7 := ((Below.refl w6.heap.size w6).alloc (Nat.le_refl _) _).grown hg7 (by simp) (fun r e => by injection e with e; omega)
  have H7 := Lib.hid (And.intro (H6.out.1.below hb7) (And.intro (H6.out.2.1.below hb7) (And.intro (H6.out.2.2.1.below hb7) (And.intro (H6.out.2.2.2.1.below hb7) (And.intro (H6.out.2.2.2.2.1.below hb7) (And.intro (H6.out.2.2.2.2.2.below hb7) hw7))))))
  clear hw7 hg7 hb7
  generalize w6.heap.size = g13 at *
  go_region_held3 (fun w' => w'.cell? ⟨w.heap.size, 32, none⟩ = some (.int .i64 leaf) ∧ w'.cell? ⟨w.heap.size, 33, none⟩ = some (.slice A n c) ∧ w'.rangeAt w.heap.size 0 csd)
    (first
      | exact ⟨(H7.out.1.below (refl_drewN w7 1)).cs.leaf, (H7.out.1.below (refl_drewN w7 1)).cs.sl, (H7.out.1.below (refl_drewN w7 1)).cs.rg⟩
      | exact ⟨J1.out.1.cs.leaf, J1.out.1.cs.sl, J1.out.1.cs.rg⟩
      | exact ⟨J2.out.1.cs.leaf, J2.out.1.cs.sl, J2.out.1.cs.rg⟩)
    (first
      | (go_at_call 20; refine (twin_to A c n d _ w HT.out.2.1 HT.out.2.2.2.2.1 HT.out.2.2.2.2.2.2.1 (H7.out.1.below (refl_drewN w7 1)).bl).mono ?_
         rintro e w8 ⟨v8', rfl, ho8, hb8⟩
         obtain ⟨A8, c8, rfl, _, hr8, _⟩ := own_slice ho8
         have hb8 : Below w7.heap.size w7 w8 := below_then (refl_drewN w7 1) (Nat.le_refl _) hb8
         have J1 := Lib.hid (And.intro (H7.out.1.below hb8) (And.intro hb8 hr8))
         clear ho8 hb8 hr8)
      | (go_at_call 19; refine (wsig_all csd seed d os leaf A8 n c8 ks ls w8 w HD.out.2.2.1 HK.out.2.1 HCS.out.1 HT.out.2.1 HT.out.1 J1.out.2.2 J1.out.1.bl ht.out.1).mono ?_
         rintro e w9 ⟨A15, c15, v16, rfl, hr15, hn16, hb9⟩
         have J2 := Lib.hid (And.intro (J1.out.1.below hb9) (And.intro (below_then J1.out.2.1 J1.out.2.1.size hb9) (And.intro hr15 hn16)))
         clear hb9 hr15 hn16))
  have e32 := J2.out.1.cs.leaf
  have e33 := J2.out.1.cs.sl
  go_wp2_with (refine wpList_load rfl (.tmp 66) rfl _ _ rfl (HLDF.out _ J2.out.1) ?_)
  refine (rsig_all csd seed d os leaf A n c ks ls w9 HD.out.2.2.1 HK.out.2.1 HCS.out.1 HT.out.2.1 HT.out.1 (HT.out.2.2.2.2.2.2.1.below J2.out.1.bl)).mono ?_
  rintro e w10 ⟨A17, c17, rfl, hr17, hb10⟩
  have hb10' := below_then J2.out.2.1 J2.out.2.1.size hb10
  have HN := Lib.hid (show NumIs w10 v8 kd ∧ NumIs w10 v12 kp ∧ NumIs w10 v16 ks ∧ Below w.heap.size w w10 ∧ GoodS w w.heap.size csd leaf (.slice A n c) w10 from
    ⟨H7.out.2.2.1.below hb10', H7.out.2.2.2.2.1.below hb10', J2.out.2.2.2.below hb10, (J2.out.1.below hb10).bl, J2.out.1.below hb10⟩)
  have HTS : Hid (∀ w', Below w10.heap.size w10 w' → w'.cell? ⟨w.heap.size, 33, none⟩ = some (.slice A n c) ∧ w'.rangeAt g11 0 csp ∧ w'.rangeAt g13 0 csp ∧ (convert 22 9 (.slice A7 ld c7)).run Tryd.prog w' = .ok (.string sd) w' ∧ (convert 22 9 (.slice A9 ld c9)).run Tryd.prog w' = .ok (.string sd) w' ∧ (convert 22 9 (.slice A15 ls c15)).run Tryd.prog w' = .ok (.string ss) w' ∧ (convert 22 9 (.slice A17 ls c17)).run Tryd.prog w' = .ok (.string ss) w') := by
    refine Lib.hid (fun w' hw' => ?_)
    have hx := below_then hb10' hb10'.size hw'
    refine ⟨(HN.out.2.2.2.2.below hw').cs.sl, fun j u hj => ?_, fun j u hj => ?_, ?_, ?_, ?_, ?_⟩
    · rw [Nat.zero_add]; exact (H7.out.2.2.2.2.2.1.below hx).cellD j u hj
    · rw [Nat.zero_add]; exact (H7.out.2.2.2.2.2.2.below hx).cellD j u hj
    · exact convS A7 c7 ld od sd w' HK.out.1 HD.out.2.2.2.2.1 (H7.out.2.1.below hx)
    · exact convS A9 c9 ld od sd w' HK.out.1 HD.out.2.2.2.2.1 (H7.out.2.2.2.1.below hx)
    · exact convS A15 c15 ls os ss w' HK.out.2.1 HD.out.2.2.2.2.2 ((J2.out.2.2.1.below hb10).below hw')
    · exact convS A17 c17 ls os ss w' HK.out.2.1 HD.out.2.2.2.2.2 (hr17.below hw')
  clear hr17 hb10 hb10' e32 e33
  go_wp2_with fail
  refine wp_region_held_drew (S := (fun w' => w'.cell? ⟨w.heap.size, 33, none⟩ = some (.slice A n c) ∧ w'.rangeAt g11 0 csp ∧ w'.rangeAt g13 0 csp ∧ (convert 22 9 (.slice A7 ld c7)).run Tryd.prog w' = .ok (.string sd) w' ∧ (convert 22 9 (.slice A9 ld c9)).run Tryd.prog w' = .ok (.string sd) w' ∧ (convert 22 9 (.slice A15 ls c15)).run Tryd.prog w' = .ok (.string ss) w' ∧ (convert 22 9 (.slice A17 ls c17)).run Tryd.prog w' = .ok (.string ss) w')) (by kernel_rfl) ?qs0 (fun hHeld => ?_)
  case qs0 => exact HTS.out _ (refl_drewN _ 1)
  refine held_take (i := 0) (v := ?qv0) rfl (by kernel_rfl) (by kernel_rfl) (by kernel_rfl) (fun _ _ _ h => h) (by rfl) ?qy0 hHeld ?_
  case qy0 => ((intro w _hSw; (try dsimp only at _hSw); go_simp); try (with_reducible rfl))
  try simp only [Act.put, List.setIfInBounds_toArray, List.set_cons_zero, List.set_cons_succ]
  refine held_take (i := 2) (v := ?qv2) rfl (by kernel_rfl) (by kernel_rfl) (by kernel_rfl) (fun _ _ _ h => h) (by rfl) ?qy2 hHeld ?_
  case qy2 => ((intro w _hSw; (try dsimp only at _hSw); go_simp); try (with_reducible rfl))
  try simp only [Act.put, List.setIfInBounds_toArray, List.set_cons_zero, List.set_cons_succ]
  refine held_take (i := 1) (v := ?qv1) rfl (by kernel_rfl) (by kernel_rfl) (by kernel_rfl) (fun _ _ _ h => h) (by rfl) ?qy1 hHeld ?_
  case qy1 => ((intro w _hSw; (try dsimp only at _hSw); go_simp); try (with_reducible rfl))
  try simp only [Act.put, List.setIfInBounds_toArray, List.set_cons_zero, List.set_cons_succ]
  refine held_take (i := 3) (v := ?qv3) rfl (by kernel_rfl) (by kernel_rfl) (by kernel_rfl) (fun _ _ _ h => h) (by rfl) ?qy3 hHeld ?_
  case qy3 => ((intro w _hSw; (try dsimp only at _hSw); go_simp); try (with_reducible rfl))
  try simp only [Act.put, List.setIfInBounds_toArray, List.set_cons_zero, List.set_cons_succ]
  refine held_take (i := 4) (v := ?qv4) rfl (by kernel_rfl) (by kernel_rfl) (by kernel_rfl) (fun _ _ _ h => h) (by rfl) ?qy4 hHeld ?_
  case qy4 => ((intro w _hSw; (try dsimp only at _hSw); go_simp); try (with_reducible rfl))
  try simp only [Act.put, List.setIfInBounds_toArray, List.set_cons_zero, List.set_cons_succ]
  refine held_take (i := 5) (v := ?qv5) rfl (by kernel_rfl) (by kernel_rfl) (by kernel_rfl) (fun _ _ _ h => h) (by rfl) ?qy5 hHeld ?_
  case qy5 => ((intro w _hSw; (try dsimp only at _hSw); go_simp); try (with_reducible rfl))
  try simp only [Act.put, List.setIfInBounds_toArray, List.set_cons_zero, List.set_cons_succ]
  refine held_take (i := 6) (v := ?qv6) rfl (by kernel_rfl) (by kernel_rfl) (by kernel_rfl) (fun _ _ _ h => h) (by rfl) ?qy6 hHeld ?_
  case qy6 => ((intro w _hSw; (try dsimp only at _hSw); go_simp); try (with_reducible rfl))
  try simp only [Act.put, List.setIfInBounds_toArray, List.set_cons_zero, List.set_cons_succ]
  refine held_take (i := 8) (v := ?qv8) rfl (by kernel_rfl) (by kernel_rfl) (by kernel_rfl) (fun _ _ _ h => h) (by rfl) ?qy8 hHeld ?_
  case qy8 => ((intro w _hSw; (try dsimp only at _hSw); go_simp); try (with_reducible rfl))
  try simp only [Act.put, List.setIfInBounds_toArray, List.set_cons_zero, List.set_cons_succ]
  refine held_step (i := 7) rfl (by kernel_rfl) (by rfl) (fun K hK => ?_)
  go_simp
  refine (num05_all v8 kd _ (HN.out.1.below (refl_drewN _ 1)) (ht.out.2.below (HN.out.2.2.2.1.drew) ht.out.2.lt)).mono ?_
  rintro e wa ⟨rfl, hb⟩
  have J1 := Lib.hid (below_then (refl_drewN w10 1) (Nat.le_refl _) hb)
  clear hb
  go_wp2_with fail
  have hHeld := HTS.out _ J1.out
  refine hK.out _ _ (HTS.out _ J1.out) ?_
  clear hK K
  try simp only [Act.put, List.setIfInBounds_toArray, List.set_cons_zero, List.set_cons_succ]
  refine held_take (i := 9) (v := ?qv9) rfl (by kernel_rfl) (by kernel_rfl) (by kernel_rfl) (fun _ _ _ h => h) (by rfl) ?qy9 hHeld ?_
  case qy9 => ((intro w _hSw; (try dsimp only at _hSw); go_simp); try (with_reducible rfl))
  try simp only [Act.put, List.setIfInBounds_toArray, List.set_cons_zero, List.set_cons_succ]
  refine held_take (i := 10) (v := ?qv10) rfl (by kernel_rfl) (by kernel_rfl) (by kernel_rfl) (fun _ _ _ h => h) (by rfl) ?qy10 hHeld ?_
  case qy10 => ((intro w _hSw; (try dsimp only at _hSw); go_simp); try (with_reducible rfl))
  try simp only [Act.put, List.setIfInBounds_toArray, List.set_cons_zero, List.set_cons_succ]
  refine held_take (i := 11) (v := ?qv11) rfl (by kernel_rfl) (by kernel_rfl) (by kernel_rfl) (fun _ _ _ h => h) (by rfl) ?qy11 hHeld ?_
  case qy11 => ((intro w _hSw; (try dsimp only at _hSw); go_simp); try (with_reducible rfl))
  try simp only [Act.put, List.setIfInBounds_toArray, List.set_cons_zero, List.set_cons_succ]
  refine held_take (i := 12) (v := ?qv12) rfl (by kernel_rfl) (by kernel_rfl) (by kernel_rfl) (fun _ _ _ h => h) (by rfl) ?qy12 hHeld ?_
  case qy12 => ((intro w _hSw; (try dsimp only at _hSw); go_simp); try (with_reducible rfl))
  try simp only [Act.put, List.setIfInBounds_toArray, List.set_cons_zero, List.set_cons_succ]
  refine held_take (i := 13) (v := ?qv13) rfl (by kernel_rfl) (by kernel_rfl) (by kernel_rfl) (fun _ _ _ h => h) (by rfl) ?qy13 hHeld ?_
  case qy13 => ((intro w _hSw; (try dsimp only at _hSw); go_simp); try (with_reducible rfl))
  try simp only [Act.put, List.setIfInBounds_toArray, List.set_cons_zero, List.set_cons_succ]
  refine held_take (i := 16) (v := ?qv16) rfl (by kernel_rfl) (by kernel_rfl) (by kernel_rfl) (fun _ _ _ h => h) (by rfl) ?qy16 hHeld ?_
  case qy16 => ((intro w _hSw; (try dsimp only at _hSw); go_simp); try (with_reducible rfl))
  try simp only [Act.put, List.setIfInBounds_toArray, List.set_cons_zero, List.set_cons_succ]
  refine held_take (i := 17) (v := ?qv17) rfl (by kernel_rfl) (by kernel_rfl) (by kernel_rfl) (fun _ _ _ h => h) (by rfl) ?qy17 hHeld ?_
  case qy17 => ((intro w _hSw; (try dsimp only at _hSw); go_simp); try (with_reducible rfl))
  try simp only [Act.put, List.setIfInBounds_toArray, List.set_cons_zero, List.set_cons_succ]
  refine held_step (i := 14) rfl (by kernel_rfl) (by rfl) (fun K hK => ?_)
  go_simp
  refine (twin_to A c n d _ w HT.out.2.1 HT.out.2.2.2.2.1 HT.out.2.2.2.2.2.2.1 (below_then HN.out.2.2.2.1 HN.out.2.2.2.1.size J1.out)).mono ?_
  rintro e wb ⟨v1, rfl, ho1, hb⟩
  obtain ⟨At, ct, rfl, _, hrt, _⟩ := own_slice ho1
  have J2 := Lib.hid (And.intro (below_then J1.out J1.out.size hb) hrt)
  clear hb ho1 hrt
  go_wp2_with fail
  have hHeld := HTS.out _ J2.out.1
  refine hK.out _ _ (HTS.out _ J2.out.1) ?_
  clear hK K
  try simp only [Act.put, List.setIfInBounds_toArray, List.set_cons_zero, List.set_cons_succ]
  refine held_step (i := 15) rfl (by kernel_rfl) (by rfl) (fun K hK => ?_)
  go_simp
  refine (wdigs_all At n ct KL d L wb HD.out.2.2.2.1 HK.out.2.2.1 HT.out.2.1 J2.out.2).mono ?_
  rintro e wd ⟨Ax, cx, rfl, hrx, hb⟩
  have J3 := Lib.hid (And.intro (below_then J2.out.1 J2.out.1.size hb) hrx)
  clear hb hrx
  go_wp2_with fail
  have hHeld := HTS.out _ J3.out.1
  refine hK.out _ _ (HTS.out _ J3.out.1) ?_
  clear hK K
  try simp only [Act.put, List.setIfInBounds_toArray, List.set_cons_zero, List.set_cons_succ]
  refine held_step (i := 18) rfl (by kernel_rfl) (by rfl) (fun K hK => ?_)
  go_simp
  refine (rdigs_all A n c KL d L wd HD.out.2.2.2.1 HK.out.2.2.1 HT.out.2.1 (HT.out.2.2.2.2.2.2.1.below (below_then HN.out.2.2.2.1 HN.out.2.2.2.1.size J3.out.1))).mono ?_
  rintro e we ⟨Ay, cy, rfl, hry, hb⟩
  have J4 := Lib.hid (And.intro (below_then J3.out.1 J3.out.1.size hb) (And.intro (J3.out.2.below hb) hry))
  clear hb hry
  go_wp2_with fail
  have hHeld := HTS.out _ J4.out.1
  refine hK.out _ _ (HTS.out _ J4.out.1) ?_
  clear hK K
  try simp only [Act.put, List.setIfInBounds_toArray, List.set_cons_zero, List.set_cons_succ]
  refine held_step (i := 19) rfl (by kernel_rfl) (by rfl) (fun K hK => ?_)
  go_simp
  refine (ints_same Ax Ay cx cy KL L we HK.out.2.2.1 (by have := HK.out.2.2.2; omega) J4.out.2.1 J4.out.2.2).mono ?_
  rintro e wf ⟨rfl, hb⟩
  have J5 := Lib.hid (below_then J4.out.1 J4.out.1.size hb)
  clear hb
  go_wp2_with fail
  have hHeld := HTS.out _ J5.out
  refine hK.out _ _ (HTS.out _ J5.out) ?_
  clear hK K
  try simp only [Act.put, List.setIfInBounds_toArray, List.set_cons_zero, List.set_cons_succ]
  refine held_take (i := 20) (v := ?qv20) rfl (by kernel_rfl) (by kernel_rfl) (by kernel_rfl) (fun _ _ _ h => h) (by rfl) ?qy20 hHeld ?_
  case qy20 => ((intro w _hSw; (try dsimp only at _hSw); go_simp); try (with_reducible rfl))
  try simp only [Act.put, List.setIfInBounds_toArray, List.set_cons_zero, List.set_cons_succ]
  refine held_take (i := 21) (v := ?qv21) rfl (by kernel_rfl) (by kernel_rfl) (by kernel_rfl) (fun _ _ _ h => h) (by rfl) ?qy21 hHeld ?_
  case qy21 => ((intro w _hSw; (try dsimp only at _hSw); go_simp); try (with_reducible rfl))
  try simp only [Act.put, List.setIfInBounds_toArray, List.set_cons_zero, List.set_cons_succ]
  refine held_take (i := 22) (v := ?qv22) rfl (by kernel_rfl) (by kernel_rfl) (by kernel_rfl) (fun _ _ _ h => h) (by rfl) ?qy22 hHeld ?_
  case qy22 => ((intro w _hSw; (try dsimp only at _hSw); go_simp); try (with_reducible rfl))
  try simp only [Act.put, List.setIfInBounds_toArray, List.set_cons_zero, List.set_cons_succ]
  refine held_take (i := 23) (v := ?qv23) rfl (by kernel_rfl) (by kernel_rfl) (by kernel_rfl) (fun _ _ _ h => h) (by rfl) ?qy23 hHeld ?_
  case qy23 => ((intro w _hSw; (try dsimp only at _hSw); go_simp); try (with_reducible rfl))
  try simp only [Act.put, List.setIfInBounds_toArray, List.set_cons_zero, List.set_cons_succ]
  refine held_take (i := 24) (v := ?qv24) rfl (by kernel_rfl) (by kernel_rfl) (by kernel_rfl) (fun _ _ _ h => h) (by rfl) ?qy24 hHeld ?_
  case qy24 => ((intro w _hSw; (try dsimp only at _hSw); go_simp); try (with_reducible rfl))
  try simp only [Act.put, List.setIfInBounds_toArray, List.set_cons_zero, List.set_cons_succ]
  refine held_take (i := 26) (v := ?qv26) rfl (by kernel_rfl) (by kernel_rfl) (by kernel_rfl) (fun _ _ _ h => h) (by rfl) ?qy26 hHeld ?_
  case qy26 => ((intro w _hSw; (try dsimp only at _hSw); go_simp); try (with_reducible rfl))
  try simp only [Act.put, List.setIfInBounds_toArray, List.set_cons_zero, List.set_cons_succ]
  refine held_take (i := 27) (v := ?qv27) rfl (by kernel_rfl) (by kernel_rfl) (by kernel_rfl) (fun _ _ _ h => h) (by rfl) ?qy27 hHeld ?_
  case qy27 => ((intro w _hSw; (try dsimp only at _hSw); go_simp); try (with_reducible rfl))
  try simp only [Act.put, List.setIfInBounds_toArray, List.set_cons_zero, List.set_cons_succ]
  refine held_step (i := 25) rfl (by kernel_rfl) (by rfl) (fun K hK => ?_)
  go_simp
  refine (wlen_all n KL d L wf HD.out.2.2.2.1 HK.out.2.2.1 HT.out.2.1).mono ?_
  rintro e wg ⟨rfl, rfl⟩
  go_wp2_with fail
  have hHeld := HTS.out _ J5.out
  refine hK.out _ _ (HTS.out _ J5.out) ?_
  clear hK K
  try simp only [Act.put, List.setIfInBounds_toArray, List.set_cons_zero, List.set_cons_succ]
  refine held_step (i := 28) rfl (by kernel_rfl) (by rfl) (fun K hK => ?_)
  go_simp
  refine (rdigs_all A n c KL d L wf HD.out.2.2.2.1 HK.out.2.2.1 HT.out.2.1 (HT.out.2.2.2.2.2.2.1.below (below_then HN.out.2.2.2.1 HN.out.2.2.2.1.size J5.out))).mono ?_
  rintro e wg ⟨Az, cz, rfl, hrz, hb⟩
  have J6 := Lib.hid (below_then J5.out J5.out.size hb)
  clear hb hrz
  go_wp2_with fail
  have hHeld := HTS.out _ J6.out
  refine hK.out _ _ (HTS.out _ J6.out) ?_
  clear hK K
  try simp only [Act.put, List.setIfInBounds_toArray, List.set_cons_zero, List.set_cons_succ]
  refine held_take (i := 29) (v := ?qv29) rfl (by kernel_rfl) (by kernel_rfl) (by kernel_rfl) (fun _ _ _ h => h) (by rfl) ?qy29 hHeld ?_
  case qy29 => ((intro w _hSw; (try dsimp only at _hSw); go_simp); try (with_reducible rfl))
  try simp only [Act.put, List.setIfInBounds_toArray, List.set_cons_zero, List.set_cons_succ]
  refine held_take (i := 30) (v := ?qv30) rfl (by kernel_rfl) (by kernel_rfl) (by kernel_rfl) (fun _ _ _ h => h) (by rfl) ?qy30 hHeld ?_
  case qy30 => ((intro w _hSw; (try dsimp only at _hSw); go_simp); try (with_reducible rfl))
  try simp only [Act.put, List.setIfInBounds_toArray, List.set_cons_zero, List.set_cons_succ]
  refine held_take (i := 31) (v := ?qv31) rfl (by kernel_rfl) (by kernel_rfl) (by kernel_rfl) (fun _ _ _ h => h) (by rfl) ?qy31 hHeld ?_
  case qy31 => ((intro w _hSw; (try dsimp only at _hSw); go_simp); try (with_reducible rfl))
  try simp only [Act.put, List.setIfInBounds_toArray, List.set_cons_zero, List.set_cons_succ]
  refine held_take (i := 32) (v := ?qv32) rfl (by kernel_rfl) (by kernel_rfl) (by kernel_rfl) (fun _ _ _ h => h) (by rfl) ?qy32 hHeld ?_
  case qy32 => ((intro w _hSw; (try dsimp only at _hSw); go_simp); try (with_reducible rfl))
  try simp only [Act.put, List.setIfInBounds_toArray, List.set_cons_zero, List.set_cons_succ]
  refine held_row (i := 33) rfl (by kernel_rfl) (by kernel_rfl) (by kernel_rfl) _ _ rfl _ _ rfl ?qC33 ?qD33 (fun _ _ _ h => h) (by rfl) ?qa33 ?qb33 ?qc33 ?qd33 hHeld ?_
  case qa33 => (intro w hSw; (try dsimp only at hSw); go_split_ands; assumption)
  case qb33 => assumption
  case qc33 => rfl
  case qd33 => first | assumption | (simp only [*]; done)
  try simp only [Act.put, List.setIfInBounds_toArray, List.set_cons_zero, List.set_cons_succ]
  refine held_row (i := 34) rfl (by kernel_rfl) (by kernel_rfl) (by kernel_rfl) _ _ rfl _ _ rfl ?qC34 ?qD34 (fun _ _ _ h => h) (by rfl) ?qa34 ?qb34 ?qc34 ?qd34 hHeld ?_
  case qa34 => (intro w hSw; (try dsimp only at hSw); go_split_ands; assumption)
  case qb34 => assumption
  case qc34 => rfl
  case qd34 => first | assumption | (simp only [*]; done)
  try simp only [Act.put, List.setIfInBounds_toArray, List.set_cons_zero, List.set_cons_succ]
  refine held_take (i := 35) (v := ?qv35) rfl (by kernel_rfl) (by kernel_rfl) (by kernel_rfl) (fun _ _ _ h => h) (by rfl) ?qy35 hHeld ?_
  case qy35 => ((intro w _hSw; (try dsimp only at _hSw); go_simp); try (with_reducible rfl))
  try simp only [Act.put, List.setIfInBounds_toArray, List.set_cons_zero, List.set_cons_succ]
  refine held_take (i := 36) (v := ?qv36) rfl (by kernel_rfl) (by kernel_rfl) (by kernel_rfl) (fun _ _ _ h => h) (by rfl) ?qy36 hHeld ?_
  case qy36 => ((intro w _hSw; (try dsimp only at _hSw); go_simp); try (with_reducible rfl))
  try simp only [Act.put, List.setIfInBounds_toArray, List.set_cons_zero, List.set_cons_succ]
  refine held_take (i := 37) (v := ?qv37) rfl (by kernel_rfl) (by kernel_rfl) (by kernel_rfl) (fun _ _ _ h => h) (by rfl) ?qy37 hHeld ?_
  case qy37 => ((intro w _hSw; (try dsimp only at _hSw); go_simp); try (with_reducible rfl))
  try simp only [Act.put, List.setIfInBounds_toArray, List.set_cons_zero, List.set_cons_succ]
  refine held_take (i := 38) (v := ?qv38) rfl (by kernel_rfl) (by kernel_rfl) (by kernel_rfl) (fun _ _ _ h => h) (by rfl) ?qy38 hHeld ?_
  case qy38 => ((intro w _hSw; (try dsimp only at _hSw); go_simp); try (with_reducible rfl))
  try simp only [Act.put, List.setIfInBounds_toArray, List.set_cons_zero, List.set_cons_succ]
  refine held_take (i := 40) (v := ?qv40) rfl (by kernel_rfl) (by kernel_rfl) (by kernel_rfl) (fun _ _ _ h => h) (by rfl) ?qy40 hHeld ?_
  case qy40 => ((intro w _hSw; (try dsimp only at _hSw); go_simp); try (with_reducible rfl))
  try simp only [Act.put, List.setIfInBounds_toArray, List.set_cons_zero, List.set_cons_succ]
  refine held_step (i := 39) rfl (by kernel_rfl) (by rfl) (fun K hK => ?_)
  go_simp
  refine (num05_all v12 kp _ (HN.out.2.1.below J6.out) (ht.out.2.below (below_then HN.out.2.2.2.1 HN.out.2.2.2.1.size J6.out) ht.out.2.lt)).mono ?_
  rintro e wh ⟨rfl, hb⟩
  have J7 := Lib.hid (below_then J6.out J6.out.size hb)
  clear hb
  go_wp2_with fail
  have hHeld := HTS.out _ J7.out
  refine hK.out _ _ (HTS.out _ J7.out) ?_
  clear hK K
  try simp only [Act.put, List.setIfInBounds_toArray, List.set_cons_zero, List.set_cons_succ]
  refine held_take (i := 41) (v := ?qv41) rfl (by kernel_rfl) (by kernel_rfl) (by kernel_rfl) (fun _ _ _ h => h) (by rfl) ?qy41 hHeld ?_
  case qy41 => ((intro w _hSw; (try dsimp only at _hSw); go_simp); try (with_reducible rfl))
  try simp only [Act.put, List.setIfInBounds_toArray, List.set_cons_zero, List.set_cons_succ]
  refine held_take (i := 42) (v := ?qv42) rfl (by kernel_rfl) (by kernel_rfl) (by kernel_rfl) (fun _ _ _ h => h) (by rfl) ?qy42 hHeld ?_
  case qy42 => ((intro w _hSw; (try dsimp only at _hSw); go_simp); try (with_reducible rfl))
  try simp only [Act.put, List.setIfInBounds_toArray, List.set_cons_zero, List.set_cons_succ]
  refine held_take (i := 43) (v := ?qv43) rfl (by kernel_rfl) (by kernel_rfl) (by kernel_rfl) (fun _ _ _ h => h) (by rfl) ?qy43 hHeld ?_
  case qy43 => ((intro w _hSw; (try dsimp only at _hSw); go_simp); try (with_reducible rfl))
  try simp only [Act.put, List.setIfInBounds_toArray, List.set_cons_zero, List.set_cons_succ]
  refine held_take (i := 44) (v := ?qv44) rfl (by kernel_rfl) (by kernel_rfl) (by kernel_rfl) (fun _ _ _ h => h) (by rfl) ?qy44 hHeld ?_
  case qy44 => ((intro w _hSw; (try dsimp only at _hSw); go_simp); try (with_reducible rfl))
  try simp only [Act.put, List.setIfInBounds_toArray, List.set_cons_zero, List.set_cons_succ]
  refine held_take (i := 46) (v := ?qv46) rfl (by kernel_rfl) (by kernel_rfl) (by kernel_rfl) (fun _ _ _ h => h) (by rfl) ?qy46 hHeld ?_
  case qy46 => ((intro w _hSw; (try dsimp only at _hSw); go_simp); try (with_reducible rfl))
  try simp only [Act.put, List.setIfInBounds_toArray, List.set_cons_zero, List.set_cons_succ]
  refine held_take (i := 45) (v := ?qv45) rfl (by kernel_rfl) (by kernel_rfl) (by kernel_rfl) (fun _ _ _ h => h) (by rfl) ?qy45 hHeld ?_
  case qy45 => ((intro w _hSw; (try dsimp only at _hSw); go_simp); try (with_reducible rfl))
  try simp only [Act.put, List.setIfInBounds_toArray, List.set_cons_zero, List.set_cons_succ]
  refine held_take (i := 47) (v := ?qv47) rfl (by kernel_rfl) (by kernel_rfl) (by kernel_rfl) (fun _ _ _ h => h) (by rfl) ?qy47 hHeld ?_
  case qy47 => ((intro w _hSw; (try dsimp only at _hSw); go_simp); try (with_reducible rfl))
  try simp only [Act.put, List.setIfInBounds_toArray, List.set_cons_zero, List.set_cons_succ]
  refine held_take (i := 48) (v := ?qv48) rfl (by kernel_rfl) (by kernel_rfl) (by kernel_rfl) (fun _ _ _ h => h) (by rfl) ?qy48 hHeld ?_
  case qy48 => ((intro w _hSw; (try dsimp only at _hSw); go_simp); try (with_reducible rfl))
  try simp only [Act.put, List.setIfInBounds_toArray, List.set_cons_zero, List.set_cons_succ]
  refine held_take (i := 49) (v := ?qv49) rfl (by kernel_rfl) (by kernel_rfl) (by kernel_rfl) (fun _ _ _ h => h) (by rfl) ?qy49 hHeld ?_
  case qy49 => ((intro w _hSw; (try dsimp only at _hSw); go_simp); try (with_reducible rfl))
  try simp only [Act.put, List.setIfInBounds_toArray, List.set_cons_zero, List.set_cons_succ]
  refine held_take (i := 50) (v := ?qv50) rfl (by kernel_rfl) (by kernel_rfl) (by kernel_rfl) (fun _ _ _ h => h) (by rfl) ?qy50 hHeld ?_
  case qy50 => ((intro w _hSw; (try dsimp only at _hSw); go_simp); try (with_reducible rfl))
  try simp only [Act.put, List.setIfInBounds_toArray, List.set_cons_zero, List.set_cons_succ]
  refine held_take (i := 51) (v := ?qv51) rfl (by kernel_rfl) (by kernel_rfl) (by kernel_rfl) (fun _ _ _ h => h) (by rfl) ?qy51 hHeld ?_
  case qy51 => ((intro w _hSw; (try dsimp only at _hSw); go_simp); try (with_reducible rfl))
  try simp only [Act.put, List.setIfInBounds_toArray, List.set_cons_zero, List.set_cons_succ]
  refine held_take (i := 53) (v := ?qv53) rfl (by kernel_rfl) (by kernel_rfl) (by kernel_rfl) (fun _ _ _ h => h) (by rfl) ?qy53 hHeld ?_
  case qy53 => ((intro w _hSw; (try dsimp only at _hSw); go_simp); try (with_reducible rfl))
  try simp only [Act.put, List.setIfInBounds_toArray, List.set_cons_zero, List.set_cons_succ]
  refine held_step (i := 52) rfl (by kernel_rfl) (by rfl) (fun K hK => ?_)
  go_simp
  refine (num05_all v16 ks _ (HN.out.2.2.1.below J7.out) (ht.out.2.below (below_then HN.out.2.2.2.1 HN.out.2.2.2.1.size J7.out) ht.out.2.lt)).mono ?_
  rintro e wi ⟨rfl, hb⟩
  have J8 := Lib.hid (below_then J7.out J7.out.size hb)
  clear hb
  go_wp2_with fail
  have hHeld := HTS.out _ J8.out
  refine hK.out _ _ (HTS.out _ J8.out) ?_
  clear hK K
  try simp only [Act.put, List.setIfInBounds_toArray, List.set_cons_zero, List.set_cons_succ]
  refine held_take (i := 54) (v := ?qv54) rfl (by kernel_rfl) (by kernel_rfl) (by kernel_rfl) (fun _ _ _ h => h) (by rfl) ?qy54 hHeld ?_
  case qy54 => ((intro w _hSw; (try dsimp only at _hSw); go_simp); try (with_reducible rfl))
  try simp only [Act.put, List.setIfInBounds_toArray, List.set_cons_zero, List.set_cons_succ]
  refine held_take (i := 55) (v := ?qv55) rfl (by kernel_rfl) (by kernel_rfl) (by kernel_rfl) (fun _ _ _ h => h) (by rfl) ?qy55 hHeld ?_
  case qy55 => ((intro w _hSw; (try dsimp only at _hSw); go_simp); try (with_reducible rfl))
  try simp only [Act.put, List.setIfInBounds_toArray, List.set_cons_zero, List.set_cons_succ]
  refine held_take (i := 56) (v := ?qv56) rfl (by kernel_rfl) (by kernel_rfl) (by kernel_rfl) (fun _ _ _ h => h) (by rfl) ?qy56 hHeld ?_
  case qy56 => ((intro w _hSw; (try dsimp only at _hSw); go_simp); try (with_reducible rfl))
  try simp only [Act.put, List.setIfInBounds_toArray, List.set_cons_zero, List.set_cons_succ]
  refine held_step (i := 57) rfl (by kernel_rfl) (by rfl) (fun K hK => ?_)
  go_simp
  refine (sure05_any _ (ht.out.1.below (below_then HN.out.2.2.2.1 HN.out.2.2.2.1.size J8.out) ht.out.1.lt)).mono ?_
  rintro e wj ⟨rfl, hb⟩
  have J9 := Lib.hid (below_then J8.out J8.out.size hb)
  clear hb
  go_wp2_with fail
  have hHeld := HTS.out _ J9.out
  refine hK.out _ _ (HTS.out _ J9.out) ?_
  clear hK K
  try simp only [Act.put, List.setIfInBounds_toArray, List.set_cons_zero, List.set_cons_succ]
  refine held_take (i := 58) (v := ?qv58) rfl (by kernel_rfl) (by kernel_rfl) (by kernel_rfl) (fun _ _ _ h => h) (by rfl) ?qy58 hHeld ?_
  case qy58 => ((intro w _hSw; (try dsimp only at _hSw); go_simp); try (with_reducible rfl))
  try simp only [Act.put, List.setIfInBounds_toArray, List.set_cons_zero, List.set_cons_succ]
  refine held_take (i := 59) (v := ?qv59) rfl (by kernel_rfl) (by kernel_rfl) (by kernel_rfl) (fun _ _ _ h => h) (by rfl) ?qy59 hHeld ?_
  case qy59 => ((intro w _hSw; (try dsimp only at _hSw); go_simp); try (with_reducible rfl))
  try simp only [Act.put, List.setIfInBounds_toArray, List.set_cons_zero, List.set_cons_succ]
  refine wpAnyH_done (by kernel_rfl) ?_ _
  go_wp2_with fail
  go_ret
  exact ⟨rfl, below_then HN.out.2.2.2.1 HN.out.2.2.2.1.size J9.out⟩
#print axioms signs_any
end Go.Proofs.YtcgdojdiihdkeaaDoor

/- WotsSigns holds for every input, what the program lays as it is laid. -/
namespace Go.Proofs.YtcgdojdiihdkeaaDoor.wotsSigns
open Go.ChangeShapes Go.WideShapes Go.ChangeAt Go.RowKit Go.Isth Go.Proofs.YtcgdojdiihdkeaaDoor.card

set_option maxRecDepth 100000 in
theorem contract (H : Type) (enc : TypeId × Value → H) (W : World) (base : Nat) (args : Array Value) (ds gs : List (DataW H)) (before : List MemPlace)
    (hval : ∀ (j : Nat) t v, Tryd.f12.params[j]? = some t → args[j]? = some v → Value.okWide Tryd.prog W .any base t v)
    (hW : DataW.Whole enc Tryd.prog Tryd.f12.params.toList Rows.wotsSignsSpec.vars false W args.toList ds gs before) (hL : laidMetH Tryd.prog Rows.wotsSignsRow.laid W)
    (hsz0 : (DataW.weightsEach Tryd.prog (Tryd.f12.params.toList ++ Rows.wotsSignsSpec.plain.varTypes Tryd.prog) (ds ++ gs)).all (· ≤ reachBytes) = true) :
    Calls Tryd.prog 12 args W fun e W' => ∃ v, e = .returned v ∧ Rows.wotsSignsSpec.post enc Tryd.prog Tryd.f12 false true false false W args v W' := by
  have hW' := hW
  have hsz := hsz0
  obtain ⟨p, q, hA0, hV, rfl, hfz, hnd⟩ := hW
  have hA : DataW.TrodAll enc Tryd.prog W 0 (fun _ => true) true Tryd.f12.params.toList args.toList ds p := hA0
  rw [Tryd.params12] at hA hval hsz
  obtain ⟨v0, vs0, d0, ds0, p0, q0, hargs, rfl, rfl, h0, r0⟩ := trodAll_cons hA
  obtain ⟨v1, vs1, d1, ds1, p1, q1, rfl, rfl, rfl, h1, r1⟩ := trodAll_cons r0
  obtain ⟨v2, vs2, d2, ds2, p2, q2, rfl, rfl, rfl, h2, r2⟩ := trodAll_cons r1
  obtain ⟨rfl, rfl, rfl⟩ := trodAll_nil r2
  obtain rfl : args = #[v0, v1, v2] := by cases args; simp_all
  obtain ⟨rfl, rfl⟩ := trodVars_none hV
  have k0 := h0
  have lt0 : ∀ x ∈ p0, x.block < W.heap.size := by obtain ⟨m, hm⟩ := k0; exact DataW.trod_lt m _ _ _ hm
  obtain ⟨bs0, a0, A0, c0, dg0, rfl, hx0⟩ := case_of (hval 0 34 v0 rfl rfl) h0 (reach_of hsz (j := 0) rfl rfl)
  obtain ⟨A1, len1, cap1, rfl⟩ := okWide_slice Tryd.underlying22 (hval 1 22 v1 rfl rfl)
  have k1 := h1
  have lt1 : ∀ x ∈ p1, x.block < W.heap.size := by obtain ⟨m, hm⟩ := k1; exact DataW.trod_lt m _ _ _ hm
  obtain ⟨fuel1, hf1⟩ := h1
  obtain ⟨bs1, v1, e0, hs1⟩ := o_bytes H enc W true fuel1 _ d1 p1 hf1 (reach_of hsz (j := 1) rfl rfl)
  obtain ⟨A1', c1', rfl, hc1, hr1, hm1, hn1⟩ := bytes_of hs1
  simp only [Value.cells, List.cons.injEq, and_true] at e0
  injection e0 with e1 e2 e3
  subst e1
  subst e2
  subst e3
  obtain ⟨a2, rfl, rfl, rfl, w2⟩ := open_int Tryd.underlying3 (hval 2 3 v2 rfl rfl) h2
  clear hA0
  have tab : TabLaid W := rounds_of hL.1
  have ty : TypeCell W := type_of hL.2
  refine (signs_any bs0 a0 a2 dg0.length bs1.length A0 A1 c0 cap1 dg0 bs1 W hx0.1 rfl rfl hc1 (by have := hx0.2.2.2; omega) (by omega) hx0.2.2.1 hr1 tab ty).mono fun e W' ⟨he, bel⟩ => ?_
  subst he
  exact ⟨_, rfl, _, _, _, [], _, [], hW', trodAll_mk1 (shut_bool Tryd.underlying4 _), (trodAll_cons_mk (Below.trod laidOut (by kernel_rfl) (of_decide_eq_true (by kernel_rfl)) k0 bel lt0) (trodAll_cons_mk (Below.trod laidOut (by kernel_rfl) (of_decide_eq_true (by kernel_rfl)) k1 bel lt1) (trodAll_cons_mk (shut_int Tryd.underlying3 w2) trodAll_mk0))), rfl, bel.frame _, fun h => by cases h⟩

abbrev wit : Array Value := #[.agg ((List.replicate 32 (B 0)).toArray ++ #[.int .i64 0, .slice none 0 0]), .slice none 0 0, .int .i64 0]
theorem laid_met (os : Os) : laidMetH Tryd.prog Rows.wotsSignsRow.laid ((laidWorld os).forCall (fun _ _ => 0) ⟨#[], wit, []⟩).memory := laidMetH_of_parts (rounds_met os wit) (by kernel_rfl)
theorem reads (os : Os) {H : Type} (enc : TypeId × Value → H) : ∃ places, DataW.whole enc Tryd.prog ((laidWorld os).forCall (fun _ _ => 0) ⟨#[], wit, []⟩).memory Tryd.f12.params.toList Rows.wotsSignsSpec.vars false wit.toList 8 = some ([.agg [.agg (List.replicate 32 (.lit (.int .u8 0))), .lit (.int .i64 0), .nil], .nil, .lit (.int .i64 0)], [], places) :=
  ⟨[], by kernel_rfl⟩

set_option maxRecDepth 100000 in
theorem lifted (os : Os) (started : os.Started) (H : Type) (enc : TypeId × Value → H) (F : Stop.Interp) :
    ReturnsInHanded {} Tryd.checked os 12 .any ((OpenSpec.ofChange Rows.wotsSignsSpec).preRow enc Tryd.prog Tryd.f12 Rows.wotsSignsRow.domain false Rows.wotsSignsRow.laid) (((OpenSpec.ofChange Rows.wotsSignsSpec).at F).post enc Tryd.prog Tryd.f12 false true false false) := by
  obtain ⟨places, hx⟩ := reads os enc
  refine returnsInHanded_of_row (C := Tryd.checked) (s := OpenSpec.ofChange Rows.wotsSignsSpec) own started (by kernel_rfl) Tryd.func12
    (witness_row_atRef (enc := enc) (C := Tryd.checked) false (laidWorld os) wit rfl (by kernel_rfl) (by kernel_rfl) (by kernel_rfl)
      (OpenSpec.preRow_of_cond 8 hx (by kernel_rfl) (fun k hk => by cases hk) (by kernel_rfl) (laid_met os))) ?_
  intro W base args ds gs before hval hW _ _ hsz hL _ _
  exact contract H enc W base args ds gs before hval hW hL hsz

theorem said : Rows.WotsSignsSaid :=
  OpenClaim.holds_of_cond 12 Tryd.f12 rfl rfl rfl rfl rfl rfl rfl ⟨rfl, rfl, rfl, rfl, rfl⟩ rfl rfl rfl rfl rfl (by kernel_rfl) Tryd.func12 (by kernel_rfl)
    (of_decide_eq_true (by kernel_rfl)) (by unfold Func.isWrapper; first | (rw [if_pos (by decide +kernel)]; kernel_rfl) | (rw [if_neg (by decide +kernel)]; exact ⟨rfl, rfl⟩))
    (fun os started H enc _ F => by rw [OpenClaim.pre_eq_preRow]; exact lifted os started H enc F)

theorem plain (f : FuncId) (fn : Func) (hf : Tryd.pinned.checked.prog.funcNamed "isthmus/isthmuslaw05.WotsSigns" = some f) (hfn : Tryd.pinned.checked.prog.funcs[f]? = some fn) :
    true = Tryd.pinned.checked.prog.looks [] ∧ ∀ (j : Nat) t, fn.params[j]? = some t → Tryd.pinned.checked.prog.wantsStandIn t = false := by
  obtain rfl : f = 12 := Option.some.inj ((show Tryd.prog.funcNamed "isthmus/isthmuslaw05.WotsSigns" = some 12 by kernel_rfl).symm.trans hf) |>.symm
  obtain rfl : fn = Tryd.f12 := (Option.some.inj (Tryd.func12.symm.trans hfn)).symm
  refine ⟨by kernel_rfl, fun j t ht => ?_⟩
  rw [Tryd.params12] at ht
  have hm := Array.mem_of_getElem? ht
  simp only [List.mem_toArray, List.mem_cons, List.not_mem_nil, or_false] at hm
  rcases hm with rfl | rfl | rfl
  · exact (show Tryd.prog.wantsStandIn 34 = false by kernel_rfl)
  · exact (show Tryd.prog.wantsStandIn 22 = false by kernel_rfl)
  · exact (show Tryd.prog.wantsStandIn 3 = false by kernel_rfl)

theorem card : Rows.WotsSignsCardSaid :=
  Claim7.holds_tied_plain_at .later [] _ _ _ _ said (fun _ h => by cases h) (by kernel_rfl) (fun _ h => by cases h) wotsSigns_row_tie rfl ⟨rfl, rfl⟩ (by kernel_rfl) rfl plain (by kernel_rfl)
#print axioms card
end Go.Proofs.YtcgdojdiihdkeaaDoor.wotsSigns
